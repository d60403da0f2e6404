/- Parsing a timetable: memory, lines, trips -/
import Derived.Test.YtpipegdjflniaaaDoorApp
import Derived.Maps.AppendAt
import Derived.Test.YtpipegdjflniaaaDoorPtb
import Derived.Test.YtpipegdjflniaaaDoorTmr
import Derived.Test.YtpipegdjflniaaaDoorSpq
import Derived.Deep.DrawnRows
import Derived.BigQuiet
import Derived.Deep.CutBlock
import Derived.Deep.DeepCutAuto
import Derived.Deep.RegionHeld3
import Derived.Test.YtpipegdjflniaaaDoorSps
namespace Go.Proofs.YtpipegdjflniaaaDoor

/-! ### Appending to a slice of the call's own: every other block stays. -/
section
open Go.ChangeShapes Go.WideShapes Go.ChangeAt Go.RowKit Go.PlainAid
set_option linter.unusedVariables false
set_option linter.unusedSimpArgs false

theorem Same.of_blk {w w' : World} {X : Nat} (h : w'.heap[X]? = w.heap[X]?) : Same w w' X := fun o => ⟨World.cell?_of_block (a := ⟨X, o, none⟩) h, World.frozen?_of_block (a := ⟨X, o, none⟩) h⟩
theorem OwnE.kept {α : Type} {e : TypeId} {m : Nat} {enc : α → List Value} {w w' : World} {B : Nat} {v : Value} {xs : List α} (h : OwnE e m enc w B v xs) (hs : ∀ X, v.ownBlock = some X → w'.heap[X]? = w.heap[X]?) : OwnE e m enc w' B v xs := by
  obtain ⟨h1, h2⟩ := h
  refine ⟨h1, ?_⟩
  rcases h2 with h2 | ⟨g, cap, cur, hv, hg, hh, r⟩
  · exact Or.inl h2
  · exact Or.inr ⟨g, cap, cur, hv, hg, by rw [hs g (by rw [hv]; rfl)]; exact hh, r⟩
/-- append(v, y) of one element; every block but the slice's own stays. -/
theorem wp_appG {α : Type} {e : TypeId} {m : Nat} {enc : α → List Value} {P : Program} {ops : Array Oper} {rest : List Oper} {o : Oper} {a : Act} {Q : Exit → Act → World → Prop} (hgd : o.guard = none) (s x : Operand) (t : TypeId)
    (ho : o.op = .call { callee := .builtin .append, args := #[s, x], argTypes := #[t, t] }) (bytes : Nat) {z : Value} {i : TypeInfo} (ht : P.underlying t = some (.slice e)) (hi : P.info? e = some i) (hz : i.zero = some z) (hsize : i.size = m) (hby : i.bytes = bytes) (hzs : z.cells.size = m) (hsz : 0 < m)
    (hm : ∀ y, (enc y).length = m) (h1 : ∀ y, ∀ u ∈ enc y, u.oneCell' = true) (hb16 : bytes ≤ 1024)
    (B : Nat) (v : Value) (xs : List α) (y : α) (cs : Array Value) (w : World) (hcs : cs.toList = enc y) (hs : a.eval s = v) (n : Nat) (hx : a.eval x = .slice (some ⟨n, 0, none⟩) 1 1) (hnw : n = w.heap.size) (hown : OwnE e m enc w B v xs) (hl : xs.length ≤ 16777216) (hB : B ≤ w.heap.size)
    (h : ∀ v' w', OwnE e m enc w' B v' (xs ++ [y]) → Below B w w' → (∀ X, X < w.heap.size → v.ownBlock ≠ some X → w'.heap[X]? = w.heap[X]?) → (v'.ownBlock = v.ownBlock ∨ v'.ownBlock = some (w.heap.size + 1)) → w.heap.size ≤ w'.heap.size → wpList P ops Q rest (a.put o.dst v') w') : wpList P ops Q (o :: rest) a (w.alloc (.cells cs e)) := by
  subst hnw
  refine wpList_append_own_at _ hgd s x t ho B e i z m bytes ht hi hz hsize hby hzs hsz v xs.length (xs.flatMap enc) hs (World.ownsRow.alloc hown _) ⟨w.heap.size, 0, none⟩ 1 1 (enc y) hx (by rw [hm]; omega) (fun j u hj => ?_) (h1 y) (by unfold maxLen; omega) ?_ (by simp; omega) (fun v' w' ho' hg _ hat => ?_)
  · rw [show (⟨w.heap.size, 0, none⟩ : Addr).add j = ⟨w.heap.size, j, none⟩ by unfold Addr.add; split <;> simp_all, World.cell?_alloc_mark, ← Array.getElem?_toList, hcs]
    exact hj
  · have : (xs.length + 1) * bytes ≤ (16777216 + 1) * 1024 := Nat.mul_le_mul (by omega) hb16
    omega
  · have hz' := hg.size
    simp at hz'
    refine h v' w' ?_ (((Below.refl B w).alloc hB _).grown hg (by simp; omega) (fun k hk => ((World.ownsRow.lt hown) k hk).1)) (fun X hX hne => ?_) ?_ (by omega)
    · show w'.ownsRow B e m v' (xs ++ [y]).length ((xs ++ [y]).flatMap enc)
      rw [List.length_append, List.flatMap_append, List.flatMap_cons, List.flatMap_nil, List.append_nil]
      exact ho'
    · have h1 : (w.alloc (.cells cs e)).heap[X]? = w.heap[X]? := ((Below.refl _ _).alloc (Nat.le_refl _) _).block X hX
      have hb := hg.block X (by simp; omega) (fun e => hne e.symm)
      exact hb.trans h1
    · rcases hat with g | g
      · exact .inl g
      · exact .inr (by rw [g]; simp)
/-- append(v, y) of one integer; every block but the slice's own stays. -/
theorem wp_appGI {ops : Array Oper} {rest : List Oper} {o : Oper} {a : Act} {Q : Exit → Act → World → Prop} (hgd : o.guard = none) (s x : Operand)
    (ho : o.op = .call { callee := .builtin .append, args := #[s, x], argTypes := #[45, 45] })
    (B : Nat) (v : Value) (xs : List Int) (y : Int) (w : World) (hown : OwnI w B v xs) (hs : a.eval s = v) (n : Nat) (hx : a.eval x = .slice (some ⟨n, 0, none⟩) 1 1) (hnw : n = w.heap.size) (hl : xs.length ≤ 16777216) (hB : B ≤ w.heap.size)
    (h : ∀ v' w', OwnI w' B v' (xs ++ [y]) → Below B w w' → (∀ X, X < w.heap.size → v.ownBlock ≠ some X → w'.heap[X]? = w.heap[X]?) → (v'.ownBlock = v.ownBlock ∨ v'.ownBlock = some (w.heap.size + 1)) → w.heap.size ≤ w'.heap.size → wpList Tryd.prog ops Q rest (a.put o.dst v') w') : wpList Tryd.prog ops Q (o :: rest) a (w.alloc (.cells #[.int .i64 y] 3)) := by
  obtain ⟨i0, hi, hz0, hz1, hz2⟩ := info_parts Tryd.infoI
  exact wp_appG (enc := encI) hgd s x 45 ho 8 Tryd.underlying45 hi hz0 hz1 hz2 rfl (by omega) (fun _ => rfl) (fun y u hu => by simp [encI] at hu; subst hu; rfl) (by omega) B v xs y _ w rfl hs n hx hnw hown hl hB h
end

/-! ### A timetable that a call builds up from nothing: what is in memory. -/
section
open Go.ChangeShapes Go.WideShapes Go.ChangeAt Go.RowKit Go.PlainAid
set_option linter.unusedVariables false
set_option linter.unusedSimpArgs false

abbrev OwnTp (w : World) (B : Nat) (v : Value) (xs : List I3) : Prop := OwnE 54 3 encI3 w B v xs
/-- Where an own slice lies. -/
theorem own_at {α : Type} {e : TypeId} {m : Nat} {enc : α → List Value} {w : World} {B : Nat} {v : Value} {xs : List α} (h : OwnE e m enc w B v xs) (h0 : 0 < xs.length) : ∃ g cap, v = .slice (some ⟨g, 0, none⟩) xs.length cap ∧ B ≤ g ∧ g < w.heap.size ∧ CapOk xs.length cap ∧ v.ownBlock = some g := by
  obtain ⟨_, hq | ⟨g, cap, cur, hv, hg, hh, hle, hcap, _⟩⟩ := h
  · omega
  · unfold maxLen at hcap
    exact ⟨g, cap, hv, hg, (Array.getElem?_eq_some_iff.1 hh).1, ⟨hle, by omega⟩, by rw [hv]; rfl⟩
theorem own_lt {α : Type} {e : TypeId} {m : Nat} {enc : α → List Value} {w : World} {B : Nat} {v : Value} {xs : List α} (h : OwnE e m enc w B v xs) : ∀ X, v.ownBlock = some X → B ≤ X ∧ X < w.heap.size := World.ownsRow.lt h
theorem own_form {α : Type} {e : TypeId} {m : Nat} {enc : α → List Value} {w : World} {B : Nat} {v : Value} {xs : List α} (h : OwnE e m enc w B v xs) : ∃ A c, v = .slice A xs.length c := by
  obtain ⟨_, ⟨hv, hn⟩ | ⟨g, cap, cur, hv, _⟩⟩ := h
  · exact ⟨none, 0, by rw [hn]; exact hv⟩
  · exact ⟨_, cap, hv⟩
theorem Sl.one {α : Type} [Inhabited α] {E : Rd α} {st : Nat → Nat} {w : World} {lo hi g : Nat} {A : Option Addr} {xs : List α} (hE : ∀ (w : World) (Z Z' : Zone) (b o : Nat) (x : α), E w Z b o x → E w Z' b o x) (h : Sl E st w (Zone.new lo hi) A xs) (hA : 0 < xs.length → ∃ o, A = some ⟨g, o, none⟩) : Sl E st w (Zone.one g) A xs := fun hn => by
  obtain ⟨b, o, e, hb, hf, hc⟩ := h hn
  obtain ⟨o', e'⟩ := hA hn
  have e2 : (some ⟨b, o, none⟩ : Option Addr) = some ⟨g, o', none⟩ := e.symm.trans e'
  simp only [Option.some.injEq, Addr.mk.injEq, and_true] at e2
  obtain ⟨rfl, rfl⟩ := e2
  exact ⟨b, o, e, ⟨Nat.le_refl _, Nat.lt_succ_self _⟩, fun _ => hf trivial, fun j hj => hE _ _ _ _ _ _ (hc j hj)⟩
theorem OwnE.trips {w : World} {B : Nat} {v : Value} {xs : List I3} (h : OwnTp w B v xs) : ∃ A c, v = .slice A xs.length c ∧ xs.length ≤ c ∧ c ≤ 9223372036854775807 ∧ I3sIn w (Zone.new B w.heap.size) A xs :=
  h.reads (fun _ => rfl) (fun j => rfl) (fun w Z b o y hc => ⟨by have := hc 0 (by omega); rw [Nat.add_zero] at this; exact this, hc 1 (by omega), hc 2 (by omega)⟩)
/-- How an own slice goes over to a longer one. -/
structure Grew (w w' : World) (v v' : Value) : Prop where
  keep : ∀ X, X < w.heap.size → v.ownBlock ≠ some X → w'.heap[X]? = w.heap[X]?
  at_ : v'.ownBlock = v.ownBlock ∨ ∃ n, w.heap.size ≤ n ∧ v'.ownBlock = some n
  size : w.heap.size ≤ w'.heap.size
theorem Grew.of_hat {w w' : World} {v v' : Value} (hs : ∀ X, X < w.heap.size → v.ownBlock ≠ some X → w'.heap[X]? = w.heap[X]?) (hat : v'.ownBlock = v.ownBlock ∨ v'.ownBlock = some (w.heap.size + 1)) (hz : w.heap.size ≤ w'.heap.size) : Grew w w' v v' :=
  ⟨hs, hat.imp id fun h => ⟨_, by omega, h⟩, hz⟩
theorem Grew.of_grown {w wA w' : World} {v v' : Value} (hb : Below w.heap.size w wA) (hg : wA.grownBy w' v.ownBlock) (hat : v'.ownBlock = v.ownBlock ∨ v'.ownBlock = some wA.heap.size) : Grew w w' v v' :=
  ⟨fun X hX hne => (hg.block X (Nat.lt_of_lt_of_le hX hb.size) (fun e => hne e.symm)).trans (hb.block X hX), hat.imp id fun h => ⟨_, hb.size, h⟩, Nat.le_trans hb.size hg.size⟩
section
variable {w w' : World} {v v' : Value} {X : Nat}
theorem Grew.ne (h : Grew w w' v v') (hX : X < w.heap.size) (hn : v.ownBlock ≠ some X) : v'.ownBlock ≠ some X := by
  intro e
  rcases h.at_ with q | ⟨n, hn', q⟩
  · rw [q] at e; exact hn e
  · rw [q] at e; simp at e; omega
theorem Grew.same (h : Grew w w' v v') (hX : X < w.heap.size) (hn : v.ownBlock ≠ some X) : Same w w' X := Same.of_blk (h.keep X hX hn)
theorem Grew.own {α : Type} {e : TypeId} {m : Nat} {enc : α → List Value} {B : Nat} {u : Value} {xs : List α} (h : Grew w w' v v') (ho : OwnE e m enc w B u xs) (hu : ∀ Y, u.ownBlock = some Y → v.ownBlock ≠ some Y) : OwnE e m enc w' B u xs :=
  ho.kept fun Y hY => h.keep Y (own_lt ho Y hY).2 (hu Y hY)
end
theorem OwnE.offS {α : Type} {e : TypeId} {m : Nat} {enc : α → List Value} {w : World} {B : Nat} {v : Value} {xs : List α} (h : OwnE e m enc w B v xs) {p : Addr} (hp : p.block < B) (u : Value) : OwnE e m enc (w.setCell p u) B v xs :=
  h.kept fun X hX => Below.heap_setCell _ _ _ _ (by have := (own_lt h X hX).1; omega)

/-! ### A line as its cells, and where its two slices lie -/
structure LZ where
  nm : ByteArray
  sA : Option Addr
  ns : Nat
  cs : Nat
  rA : Option Addr
  nr : Nat
  cr : Nat
  p : Nat
  r : Nat
  lo : Nat
  hi : Nat
instance : Inhabited LZ := ⟨⟨ByteArray.empty, none, 0, 0, none, 0, 0, 0, 0, 0, 0⟩⟩
def encLZ (y : LZ) : List Value := [.string y.nm, .slice y.sA y.ns y.cs, .slice y.rA y.nr y.cr]
theorem encLZ_cell : ∀ y, ∀ u ∈ encLZ y, u.oneCell' = true := fun y u hu => by
  simp [encLZ] at hu
  rcases hu with rfl | rfl | rfl <;> rfl
def zAt (ys : List LZ) (j : Nat) : LZ := ys.getD j default
theorem zAt_old {ys : List LZ} {y : LZ} {j : Nat} (hj : j < ys.length) : zAt (ys ++ [y]) j = zAt ys j := by
  unfold zAt
  rw [List.getD_eq_getElem?_getD, List.getD_eq_getElem?_getD, List.getElem?_append_left hj]
theorem zAt_new {ys : List LZ} {y : LZ} : zAt (ys ++ [y]) ys.length = y := by
  unfold zAt
  rw [List.getD_eq_getElem?_getD, List.getElem?_append_right (Nat.le_refl _)]
  simp
theorem nthL_old {xs : List LineD} {x : LineD} {j : Nat} (hj : j < xs.length) : nthL (xs ++ [x]) j = nthL xs j := by
  unfold nthL
  rw [List.getD_eq_getElem?_getD, List.getD_eq_getElem?_getD, List.getElem?_append_left hj]
theorem nthL_new {xs : List LineD} {x : LineD} : nthL (xs ++ [x]) xs.length = x := by
  unfold nthL
  rw [List.getD_eq_getElem?_getD, List.getElem?_append_right (Nat.le_refl _)]
  simp
structure LzAt (w : World) (y : LZ) (x : LineD) : Prop where
  nm : y.nm = x.name
  ns : y.ns = x.stops.length
  nr : y.nr = x.runs.length
  i1 : IntsIn w (Zone.one y.p) y.sA x.stops
  i2 : IntsIn w (Zone.one y.r) y.rA x.runs
  p0 : 0 < x.stops.length → y.lo ≤ y.p ∧ y.p < y.hi
  r0 : 0 < x.runs.length → y.lo ≤ y.r ∧ y.r < y.hi
  ne : 0 < x.stops.length → 0 < x.runs.length → y.p ≠ y.r
  c1 : CapOk x.stops.length y.cs
  c2 : CapOk x.runs.length y.cr
theorem one_keep {w w' : World} {xs : List Int} {a : Nat} {A : Option Addr} (h : IntsIn w (Zone.one a) A xs) (hs : 0 < xs.length → Same w w' a) : IntsIn w' (Zone.one a) A xs := fun hx => (h.keep fun c hc => by rw [Zone.one_ok hc]; exact hs hx) hx
theorem LzAt.keep {w w' : World} {y : LZ} {x : LineD} (h : LzAt w y x) (hs : ∀ c, y.lo ≤ c → c < y.hi → Same w w' c) : LzAt w' y x :=
  ⟨h.nm, h.ns, h.nr, one_keep h.i1 fun hx => hs _ (h.p0 hx).1 (h.p0 hx).2, one_keep h.i2 fun hx => hs _ (h.r0 hx).1 (h.r0 hx).2, h.p0, h.r0, h.ne, h.c1, h.c2⟩
/-- The own block of a value lies off the lines' slices. -/
def OffZ (ys : List LZ) (v : Value) : Prop := ∀ j, j < ys.length → ∀ X, v.ownBlock = some X → X < (zAt ys j).lo ∨ (zAt ys j).hi ≤ X
/-- Lines of the call's own in a slice value v, from block B on. -/
structure LzOwn (w : World) (B : Nat) (v : Value) (xs : List LineD) (ys : List LZ) : Prop where
  own : OwnE 47 3 encLZ w B v ys
  len : ys.length = xs.length
  each : ∀ j, j < ys.length → LzAt w (zAt ys j) (nthL xs j)
  ord : ∀ j, j < ys.length → B ≤ (zAt ys j).lo ∧ (zAt ys j).hi ≤ w.heap.size
  apt : ∀ i j, i < j → j < ys.length → (zAt ys i).hi ≤ (zAt ys j).lo
  off : OffZ ys v
theorem LzOwn.nil {w : World} {B : Nat} : LzOwn w B (.slice none 0 0) [] [] :=
  ⟨OwnE.nil, rfl, fun j hj => absurd hj (Nat.not_lt_zero _), fun j hj => absurd hj (Nat.not_lt_zero _), fun i j _ hj => absurd hj (Nat.not_lt_zero _), fun j hj => absurd hj (Nat.not_lt_zero _)⟩
theorem LzOwn.keep {w w' : World} {B : Nat} {v : Value} {xs : List LineD} {ys : List LZ} (h : LzOwn w B v xs ys) (hs : ∀ X, B ≤ X → X < w.heap.size → w'.heap[X]? = w.heap[X]?) (hz : w.heap.size ≤ w'.heap.size) : LzOwn w' B v xs ys :=
  ⟨h.own.kept fun X hX => by have := own_lt h.own X hX; exact hs X this.1 this.2, h.len, fun j hj => (h.each j hj).keep fun c c1 c2 => Same.of_blk (hs c (by have := h.ord j hj; omega) (by have := h.ord j hj; omega)), fun j hj => ⟨(h.ord j hj).1, by have := (h.ord j hj).2; omega⟩, h.apt, h.off⟩
/-- Another slice grows. -/
theorem LzOwn.grew {w w' : World} {B : Nat} {v u u' : Value} {xs : List LineD} {ys : List LZ} (h : LzOwn w B v xs ys) (hg : Grew w w' u u') (hu : ∀ X, v.ownBlock = some X → u.ownBlock ≠ some X) (ho : OffZ ys u) : LzOwn w' B v xs ys :=
  ⟨hg.own h.own hu, h.len, fun j hj => (h.each j hj).keep fun c c1 c2 => hg.same (by have := h.ord j hj; omega) (fun e => by have := ho j hj c e; omega), fun j hj => ⟨(h.ord j hj).1, by have := (h.ord j hj).2; have := hg.size; omega⟩, h.apt, h.off⟩
theorem LzOwn.set {w : World} {B : Nat} {v : Value} {xs : List LineD} {ys : List LZ} (h : LzOwn w B v xs ys) {p : Addr} (hp : p.block < B) (u : Value) : LzOwn (w.setCell p u) B v xs ys :=
  h.keep (fun X hX _ => Below.heap_setCell _ _ _ _ (by omega)) (by rw [size_set]; exact Nat.le_refl _)
/-- One more line. -/
theorem LzOwn.step {w0 w w' : World} {B : Nat} {v v' : Value} {xs : List LineD} {x : LineD} {ys : List LZ} {y : LZ} (h : LzOwn w0 B v xs ys) (hB : B ≤ w0.heap.size) (hb : Below w0.heap.size w0 w) (hy : LzAt w y x) (hlo : w0.heap.size ≤ y.lo) (hhi : y.hi ≤ w.heap.size)
    (ho : OwnE 47 3 encLZ w' B v' (ys ++ [y])) (hg : Grew w w' v v') : LzOwn w' B v' (xs ++ [x]) (ys ++ [y]) := by
  have hz := hb.size
  have hz2 := hg.size
  have hl := h.len
  have hold : ∀ j, j < ys.length → zAt (ys ++ [y]) j = zAt ys j := fun j hj => zAt_old hj
  have hnew : zAt (ys ++ [y]) ys.length = y := zAt_new
  have hv0 : ∀ X, v.ownBlock = some X → X < w0.heap.size := fun X hX => (own_lt h.own X hX).2
  refine ⟨ho, by simp [hl], fun j hj => ?_, fun j hj => ?_, fun i j hij hj => ?_, fun j hj X hX => ?_⟩
  · by_cases e : j = ys.length
    · subst e
      rw [hnew, hl, nthL_new]
      exact hy.keep fun c c1 c2 => hg.same (by omega) (fun q => by have := hv0 c q; omega)
    · have hj' : j < ys.length := by simp at hj; omega
      rw [hold j hj', nthL_old (by omega)]
      exact (h.each j hj').keep fun c c1 c2 => by
        have := h.ord j hj'
        exact (Same.of_below hb (by omega)).trans (hg.same (by omega) (fun q => by have := h.off j hj' c q; omega))
  · by_cases e : j = ys.length
    · subst e; rw [hnew]; omega
    · have hj' : j < ys.length := by simp at hj; omega
      rw [hold j hj']
      have := h.ord j hj'
      omega
  · by_cases e : j = ys.length
    · subst e
      rw [hnew, hold i hij]
      have := h.ord i hij
      omega
    · have hj' : j < ys.length := by simp at hj; omega
      rw [hold j hj', hold i (by omega)]
      exact h.apt i j hij hj'
  · by_cases e : j = ys.length
    · subst e
      rw [hnew]
      rcases hg.at_ with q | ⟨n, hn, q⟩
      · rw [q] at hX; have := hv0 X hX; omega
      · rw [q] at hX; simp at hX; omega
    · have hj' : j < ys.length := by simp at hj; omega
      rw [hold j hj']
      rcases hg.at_ with q | ⟨n, hn, q⟩
      · rw [q] at hX; exact h.off j hj' X hX
      · rw [q] at hX; simp at hX; have := h.ord j hj'; omega
theorem OffZ.old {ys : List LZ} {y : LZ} {v : Value} (h : OffZ ys v) (hn : ∀ X, v.ownBlock = some X → X < y.lo) : OffZ (ys ++ [y]) v := fun j hj X hX => by
  by_cases e : j = ys.length
  · subst e; rw [zAt_new]; exact .inl (hn X hX)
  · have hj' : j < ys.length := by simp at hj; omega
    rw [zAt_old hj']; exact h j hj' X hX
theorem OffZ.grew {w w' : World} {B : Nat} {v u u' : Value} {xs : List LineD} {ys : List LZ} (h : OffZ ys u) (hl : LzOwn w B v xs ys) (hg : Grew w w' u u') : OffZ ys u' := fun j hj X hX => by
  rcases hg.at_ with q | ⟨n, hn, q⟩
  · rw [q] at hX; exact h j hj X hX
  · rw [q] at hX; simp at hX; have := hl.ord j hj; omega
/-- They read as lines. -/
theorem LzOwn.linesIn {w : World} {B : Nat} {v : Value} {xs : List LineD} {ys : List LZ} (h : LzOwn w B v xs ys) : ∃ L c, v = .slice L xs.length c ∧ CapOk xs.length c ∧ LinesIn w (Zone.new B w.heap.size) L xs := by
  obtain ⟨A, c, e, h1, h2, hs⟩ := h.own.reads (E := fun w Z b o (y : LZ) => w.cell? ⟨b, o, none⟩ = some (.string y.nm) ∧ w.cell? ⟨b, o + 1, none⟩ = some (.slice y.sA y.ns y.cs) ∧ w.cell? ⟨b, o + 2, none⟩ = some (.slice y.rA y.nr y.cr)) (st := at3) (fun _ => rfl) (fun j => rfl) (fun w Z b o y hc => ⟨by have := hc 0 (by omega); rw [Nat.add_zero] at this; exact this, hc 1 (by omega), hc 2 (by omega)⟩)
  have hl := h.len
  rw [hl] at e h1
  refine ⟨A, c, e, ⟨h1, h2⟩, fun hn => ?_⟩
  obtain ⟨b, o, eA, hb, hf, hc⟩ := hs (by omega)
  have hv : v.ownBlock = some b := by
    obtain ⟨g, cap, e2, _, _, _, h5⟩ := own_at h.own (by omega)
    have e3 : Value.slice A xs.length c = .slice (some ⟨g, 0, none⟩) ys.length cap := e.symm.trans e2
    simp only [Value.slice.injEq] at e3
    have e4 : (some ⟨b, o, none⟩ : Option Addr) = some ⟨g, 0, none⟩ := eA.symm.trans e3.1
    simp only [Option.some.injEq, Addr.mk.injEq, and_true] at e4
    rw [h5, e4.1]
  refine ⟨b, o, eA, hb, hf, fun j hj => ?_⟩
  have hj' : j < ys.length := by omega
  obtain ⟨q0, q1, q2⟩ := hc j hj'
  have ha := h.each j hj'
  have ho := h.ord j hj'
  have hx : ys.getD j default = zAt ys j := rfl
  rw [hx, ha.nm] at q0
  rw [hx, ha.ns] at q1
  rw [hx, ha.nr] at q2
  have hoff := h.off j hj' b hv
  refine ⟨(zAt ys j).sA, (zAt ys j).cs, (zAt ys j).rA, (zAt ys j).cr, q0, q1, q2, fun hp => ?_, fun hp => ?_, ha.c1, ha.c2⟩
  · have := ha.p0 hp
    exact (ha.i1.mono (Zone.one_sub (by omega) (by omega) (by omega))) hp
  · have := ha.r0 hp
    exact (ha.i2.mono (Zone.one_sub (by omega) (by omega) (by omega))) hp

/-! ### The timetable under way -/
/-- Its box. -/
structure TC (w : World) (g : Nat) (a l t : Value) : Prop where
  c0 : w.cell? ⟨g, 0, none⟩ = some a
  c1 : w.cell? ⟨g, 1, none⟩ = some l
  c2 : w.cell? ⟨g, 2, none⟩ = some t
  fr : ∀ j, w.frozen? ⟨g, j, none⟩ = false
  lt : g < w.heap.size
section
variable {w w' : World} {g B : Nat} {a l t : Value}
theorem TC.kept (h : TC w g a l t) (hs : w'.heap[g]? = w.heap[g]?) (hz : w.heap.size ≤ w'.heap.size) : TC w' g a l t :=
  have s := Same.of_blk hs
  ⟨(s 0).1.trans h.c0, (s 1).1.trans h.c1, (s 2).1.trans h.c2, fun j => (s j).2.trans (h.fr j), Nat.lt_of_lt_of_le h.lt hz⟩
theorem TC.below (h : TC w g a l t) (hb : Below B w w') (hg : g < B) : TC w' g a l t := h.kept (hb.block g hg) hb.size
theorem TC.setA (h : TC w g a l t) (v : Value) : TC (w.setCell ⟨g, 0, none⟩ v) g v l t where
  c0 := World.cell?_setCell_same _ _ _ h.c0
  c1 := by rw [World.cell?_setCell_other _ _ _ _ (addr_ne (by omega))]; exact h.c1
  c2 := by rw [World.cell?_setCell_other _ _ _ _ (addr_ne (by omega))]; exact h.c2
  fr := fun j => by rw [World.frozen?_setCell]; exact h.fr j
  lt := by rw [size_set]; exact h.lt
theorem TC.setL (h : TC w g a l t) (v : Value) : TC (w.setCell ⟨g, 1, none⟩ v) g a v t where
  c0 := by rw [World.cell?_setCell_other _ _ _ _ (addr_ne (by omega))]; exact h.c0
  c1 := World.cell?_setCell_same _ _ _ h.c1
  c2 := by rw [World.cell?_setCell_other _ _ _ _ (addr_ne (by omega))]; exact h.c2
  fr := fun j => by rw [World.frozen?_setCell]; exact h.fr j
  lt := by rw [size_set]; exact h.lt
theorem TC.setT (h : TC w g a l t) (v : Value) : TC (w.setCell ⟨g, 2, none⟩ v) g a l v where
  c0 := by rw [World.cell?_setCell_other _ _ _ _ (addr_ne (by omega))]; exact h.c0
  c1 := by rw [World.cell?_setCell_other _ _ _ _ (addr_ne (by omega))]; exact h.c1
  c2 := World.cell?_setCell_same _ _ _ h.c2
  fr := fun j => by rw [World.frozen?_setCell]; exact h.fr j
  lt := by rw [size_set]; exact h.lt
end
structure PSt (w : World) (B g : Nat) (x : TTD) (va vl vt : Value) (ys : List LZ) : Prop where
  c : TC w g va vl vt
  gB : g < B
  s : OwnS w B va x.net.stops
  l : LzOwn w B vl x.net.lines ys
  t : OwnTp w B vt x.trips
  oS : OffZ ys va
  oT : OffZ ys vt
  sl : ∀ X, va.ownBlock = some X → vl.ownBlock ≠ some X
  st : ∀ X, va.ownBlock = some X → vt.ownBlock ≠ some X
  lt : ∀ X, vl.ownBlock = some X → vt.ownBlock ≠ some X
section
variable {w w' w0 : World} {B g : Nat} {x : TTD} {va vl vt v' : Value} {ys : List LZ} {s : ByteArray} {t : I3} {ln : LineD} {y : LZ}
theorem PSt.keep (h : PSt w B g x va vl vt ys) (hs : ∀ X, X < w.heap.size → w'.heap[X]? = w.heap[X]?) (hz : w.heap.size ≤ w'.heap.size) : PSt w' B g x va vl vt ys :=
  ⟨h.c.kept (hs g h.c.lt) hz, h.gB, h.s.kept fun X hX => hs X (own_lt h.s X hX).2, h.l.keep (fun X _ hX => hs X hX) hz, h.t.kept fun X hX => hs X (own_lt h.t X hX).2, h.oS, h.oT, h.sl, h.st, h.lt⟩
theorem PSt.call (h : PSt w B g x va vl vt ys) (hb : Below w.heap.size w w') : PSt w' B g x va vl vt ys := h.keep (fun X hX => hb.block X hX) hb.size
theorem PSt.drewN (h : PSt w B g x va vl vt ys) (n : Nat) : PSt (w.drewN n) B g x va vl vt ys := h.keep (fun _ _ => rfl) (Nat.le_refl _)
theorem PSt.alloc (h : PSt w B g x va vl vt ys) (o : Obj) : PSt (w.alloc o) B g x va vl vt ys := h.call ((Below.refl _ _).alloc (Nat.le_refl _) _)
theorem PSt.start (hc : TC w g (.slice none 0 0) (.slice none 0 0) (.slice none 0 0)) (hg : g < B) : PSt w B g emT (.slice none 0 0) (.slice none 0 0) (.slice none 0 0) [] :=
  ⟨hc, hg, OwnE.nil, LzOwn.nil, OwnE.nil, fun j hj => absurd hj (Nat.not_lt_zero _), fun j hj => absurd hj (Nat.not_lt_zero _), fun X hX => by simp [Value.ownBlock] at hX, fun X hX => by simp [Value.ownBlock] at hX, fun X hX => by simp [Value.ownBlock] at hX⟩
theorem own_ne {α : Type} {e : TypeId} {m : Nat} {enc : α → List Value} {v : Value} {xs : List α} (h : OwnE e m enc w B v xs) (hg : g < B) : v.ownBlock ≠ some g := fun q => by have := own_lt h g q; omega
theorem PSt.addStop (h : PSt w B g x va vl vt ys) (ho : OwnS w' B v' (x.net.stops ++ [s])) (hg : Grew w w' va v') : PSt (w'.setCell ⟨g, 0, none⟩ v') B g (adStop x s) v' vl vt ys where
  c := (h.c.kept (hg.keep g h.c.lt (own_ne h.s h.gB)) hg.size).setA _
  gB := h.gB
  s := ho.offS (p := ⟨g, 0, none⟩) h.gB _
  l := (h.l.grew hg (fun X hX e => h.sl X e hX) h.oS).set (p := ⟨g, 0, none⟩) h.gB _
  t := (hg.own h.t (fun X hX e => h.st X e hX)).offS (p := ⟨g, 0, none⟩) h.gB _
  oS := h.oS.grew h.l hg
  oT := h.oT
  sl := fun X hX e => hg.ne (own_lt h.l.own X e).2 (fun q => h.sl X q e) hX
  st := fun X hX e => hg.ne (own_lt h.t X e).2 (fun q => h.st X q e) hX
  lt := h.lt
theorem PSt.addTrip (h : PSt w B g x va vl vt ys) (ho : OwnTp w' B v' (x.trips ++ [t])) (hg : Grew w w' vt v') : PSt (w'.setCell ⟨g, 2, none⟩ v') B g (adTrip x t) va vl v' ys where
  c := (h.c.kept (hg.keep g h.c.lt (own_ne h.t h.gB)) hg.size).setT _
  gB := h.gB
  s := (hg.own h.s (fun X hX e => h.st X hX e)).offS (p := ⟨g, 2, none⟩) h.gB _
  l := (h.l.grew hg (fun X hX e => h.lt X hX e) h.oT).set (p := ⟨g, 2, none⟩) h.gB _
  t := ho.offS (p := ⟨g, 2, none⟩) h.gB _
  oS := h.oS
  oT := h.oT.grew h.l hg
  sl := h.sl
  st := fun X hX e => hg.ne (own_lt h.s X hX).2 (fun q => h.st X hX q) e
  lt := fun X hX e => hg.ne (own_lt h.l.own X hX).2 (fun q => h.lt X hX q) e
theorem PSt.addLine (h : PSt w0 B g x va vl vt ys) (hB : B ≤ w0.heap.size) (hb : Below w0.heap.size w0 w) (hy : LzAt w y ln) (hlo : w0.heap.size ≤ y.lo) (hhi : y.hi ≤ w.heap.size) (ho : OwnE 47 3 encLZ w' B v' (ys ++ [y])) (hg : Grew w w' vl v') :
    PSt (w'.setCell ⟨g, 1, none⟩ v') B g (adLine x ln) va v' vt (ys ++ [y]) :=
  have h2 := h.call hb
  { c := (h2.c.kept (hg.keep g h2.c.lt (own_ne h2.l.own h.gB)) hg.size).setL _
    gB := h.gB
    s := (hg.own h2.s (fun X hX e => h.sl X hX e)).offS (p := ⟨g, 1, none⟩) h.gB _
    l := (h.l.step hB hb hy hlo hhi ho hg).set (p := ⟨g, 1, none⟩) h.gB _
    t := (hg.own h2.t (fun X hX e => h.lt X e hX)).offS (p := ⟨g, 1, none⟩) h.gB _
    oS := h.oS.old fun X hX => by have := (own_lt h.s X hX).2; omega
    oT := h.oT.old fun X hX => by have := (own_lt h.t X hX).2; omega
    sl := fun X hX e => hg.ne (own_lt h2.s X hX).2 (fun q => h.sl X hX q) e
    st := h.st
    lt := fun X hX e => hg.ne (own_lt h2.t X e).2 (fun q => h.lt X q e) hX }
/-- What is read of it. -/
theorem PSt.reads (h : PSt w B g x va vl vt ys) : ∃ A ca L cl T ct, va = .slice A x.net.stops.length ca ∧ vl = .slice L x.net.lines.length cl ∧ vt = .slice T x.trips.length ct ∧ StrsIn w (Zone.below w.heap.size) A x.net.stops ∧ LinesIn w (Zone.below w.heap.size) L x.net.lines ∧ I3sIn w (Zone.below w.heap.size) T x.trips := by
  obtain ⟨A, ca, e1, _, _, h1⟩ := h.s.strs
  obtain ⟨L, cl, e2, _, h2⟩ := h.l.linesIn
  obtain ⟨T, ct, e3, _, _, h3⟩ := h.t.trips
  exact ⟨A, ca, L, cl, T, ct, e1, e2, e3, h1.to_below (Nat.le_refl _), h2.to_below (Nat.le_refl _), h3.to_below (Nat.le_refl _)⟩
/-- A valid one is a timetable of the call's own. -/
theorem PSt.tto {A L T : Option Addr} {ca cl ct : Nat} (h : PSt w B g x va vl vt ys) (ea : va = .slice A x.net.stops.length ca) (el : vl = .slice L x.net.lines.length cl) (et : vt = .slice T x.trips.length ct) (hv : netB x.net = true) : TtO w B w.heap.size x A L T := by
  obtain ⟨_, hln, hs0, hl0⟩ := netB_lnV hv
  have hl := h.l.len
  obtain ⟨gs, caps, e1, s1, s2, _, s5⟩ := own_at h.s hs0
  obtain ⟨gl, capl, e2, l1, l2, _, l5⟩ := own_at h.l.own (by omega)
  have eA : A = some ⟨gs, 0, none⟩ := by rw [ea] at e1; simp only [Value.slice.injEq] at e1; exact e1.1
  have eL : L = some ⟨gl, 0, none⟩ := by rw [el] at e2; simp only [Value.slice.injEq] at e2; exact e2.1
  obtain ⟨A', ca', e3, _, _, hS⟩ := h.s.strs
  have eA' : A' = some ⟨gs, 0, none⟩ := by rw [e1] at e3; simp only [Value.slice.injEq] at e3; exact e3.1.symm
  subst eA'
  have hvL : ∀ j, j < ys.length → LnV x.net.stops (nthL x.net.lines j) := fun j hj => hln _ (by
    unfold nthL
    rw [List.getD_eq_getElem?_getD, List.getElem?_eq_getElem (by omega)]
    exact List.getElem_mem _)
  have hp : ∀ j, j < ys.length → (B ≤ (zAt ys j).p ∧ (zAt ys j).p < w.heap.size ∧ (zAt ys j).lo ≤ (zAt ys j).p ∧ (zAt ys j).p < (zAt ys j).hi) ∧ (B ≤ (zAt ys j).r ∧ (zAt ys j).r < w.heap.size ∧ (zAt ys j).lo ≤ (zAt ys j).r ∧ (zAt ys j).r < (zAt ys j).hi) ∧ (zAt ys j).p ≠ (zAt ys j).r := fun j hj => by
    have hn := hvL j hj
    have a := h.l.each j hj
    have o := h.l.ord j hj
    have p0 := a.p0 (by have := hn.len; omega)
    have r0 := a.r0 hn.run0
    have ne := a.ne (by have := hn.len; omega) hn.run0
    omega
  have hcell : ∀ j, j < ys.length → ∀ i, i < 3 → w.cell? ⟨gl, j * 3 + i, none⟩ = (encLZ (zAt ys j))[i]? := fun j hj i hi => by
    have ho := h.l.own
    rw [e2] at ho
    rw [World.ownsRow.cellAt ho (j * 3 + i) (by omega), flat_get (enc := encLZ) (m := 3) (fun _ => rfl) ys j i hj hi]
    rfl
  have hfr : ∀ j, w.frozen? ⟨gl, j, none⟩ = false := fun j => by
    have ho := h.l.own
    rw [e2] at ho
    exact World.ownsRow.frozenAt ho j
  have hne : gs ≠ gl := fun e => h.sl gs s5 (by rw [l5, e])
  refine .inr ⟨gs, gl, fun j => (zAt ys j).p, fun j => (zAt ys j).r, ⟨eL, ?_, ⟨hfr, fun k hk => ?_⟩, ⟨l1, l2, fun k hk => ?_, fun k hk => ?_, fun i j hi hj hij => ?_, fun i j hi hj hij => ?_, fun i j hi hj => ?_⟩, s1, s2, ⟨hne, fun k hk => ?_⟩⟩, ?_⟩
  · rw [eA]
    exact Sl.one (fun _ _ _ _ _ _ h => h) hS (fun _ => ⟨0, rfl⟩)
  · have a := h.l.each k (by omega)
    have q0 := hcell k (by omega) 0 (by omega)
    have q1 := hcell k (by omega) 1 (by omega)
    have q2 := hcell k (by omega) 2 (by omega)
    refine ⟨(zAt ys k).sA, (zAt ys k).cs, (zAt ys k).rA, (zAt ys k).cr, ?_, ?_, ?_, a.i1, a.i2, a.c1, a.c2⟩
    · rw [← a.nm]; exact q0
    · rw [← a.ns]; exact q1
    · rw [← a.nr]; exact q2
  · have q := hp k (by omega)
    exact ⟨q.1.1, q.1.2.1, fun e => by have := h.l.off k (by omega) gl l5; omega⟩
  · have q := hp k (by omega)
    exact ⟨q.2.1.1, q.2.1.2.1, fun e => by have := h.l.off k (by omega) gl l5; omega⟩
  · have qi := hp i (by omega)
    have qj := hp j (by omega)
    rcases Nat.lt_or_gt_of_ne hij with hlt | hlt
    · have := h.l.apt i j hlt (by omega); show (zAt ys i).p ≠ (zAt ys j).p; omega
    · have := h.l.apt j i hlt (by omega); show (zAt ys i).p ≠ (zAt ys j).p; omega
  · have qi := hp i (by omega)
    have qj := hp j (by omega)
    rcases Nat.lt_or_gt_of_ne hij with hlt | hlt
    · have := h.l.apt i j hlt (by omega); show (zAt ys i).r ≠ (zAt ys j).r; omega
    · have := h.l.apt j i hlt (by omega); show (zAt ys i).r ≠ (zAt ys j).r; omega
  · have qi := hp i (by omega)
    have qj := hp j (by omega)
    by_cases hij : i = j
    · subst hij; exact qi.2.2
    · rcases Nat.lt_or_gt_of_ne hij with hlt | hlt
      · have := h.l.apt i j hlt (by omega); show (zAt ys i).p ≠ (zAt ys j).r; omega
      · have := h.l.apt j i hlt (by omega); show (zAt ys i).p ≠ (zAt ys j).r; omega
  · have q := hp k (by omega)
    have o := h.oS k (by omega) gs s5
    exact ⟨fun e => by have e' : gs = (zAt ys k).p := e; omega, fun e => by have e' : gs = (zAt ys k).r := e; omega⟩
  · rcases Nat.eq_zero_or_pos x.trips.length with h0 | h0
    · exact .inl (List.length_eq_zero_iff.1 h0)
    · obtain ⟨gt, capt, e4, t1, t2, _, t5⟩ := own_at h.t h0
      obtain ⟨T', ct', e5, _, _, hT⟩ := h.t.trips
      have eT : T = some ⟨gt, 0, none⟩ := by rw [et] at e4; simp only [Value.slice.injEq] at e4; exact e4.1
      have eT' : T' = some ⟨gt, 0, none⟩ := by rw [e4] at e5; simp only [Value.slice.injEq] at e5; exact e5.1.symm
      subst eT'
      refine .inr ⟨gt, ⟨t1, t2⟩, fun e => h.st gs s5 (by rw [t5, e]), ⟨fun e => h.lt gl l5 (by rw [t5, e]), fun k hk => ?_⟩, ?_⟩
      · have q := hp k (by omega)
        have o := h.oT k (by omega) gt t5
        exact ⟨fun e => by have e' : gt = (zAt ys k).p := e; omega, fun e => by have e' : gt = (zAt ys k).r := e; omega⟩
      · rw [eT]
        exact Sl.one (fun _ _ _ _ _ _ h => h) hT (fun _ => ⟨0, rfl⟩)
end
end

/-! ### A line that a call builds up; words of a line in memory. -/
section
open Go.ChangeShapes Go.WideShapes Go.ChangeAt Go.RowKit Go.PlainAid
set_option linter.unusedVariables false
set_option linter.unusedSimpArgs false

theorem OwnE.formI {w : World} {B : Nat} {v : Value} {xs : List Int} (h : OwnI w B v xs) : ∃ A n c, v = .slice A n c := by
  obtain ⟨A, c, e⟩ := own_form h
  exact ⟨A, _, c, e⟩
/-- A line's box. -/
structure LB (w : World) (g : Nat) (nm : ByteArray) (a r : Value) : Prop where
  c0 : w.cell? ⟨g, 0, none⟩ = some (.string nm)
  c1 : w.cell? ⟨g, 1, none⟩ = some a
  c2 : w.cell? ⟨g, 2, none⟩ = some r
  fr : ∀ j, w.frozen? ⟨g, j, none⟩ = false
  lt : g < w.heap.size
section
variable {w w' : World} {g B : Nat} {nm : ByteArray} {a r : Value}
theorem LB.kept (h : LB w g nm a r) (hs : w'.heap[g]? = w.heap[g]?) (hz : w.heap.size ≤ w'.heap.size) : LB w' g nm a r :=
  have s := Same.of_blk hs
  ⟨(s 0).1.trans h.c0, (s 1).1.trans h.c1, (s 2).1.trans h.c2, fun j => (s j).2.trans (h.fr j), Nat.lt_of_lt_of_le h.lt hz⟩
theorem LB.below (h : LB w g nm a r) (hb : Below B w w') (hg : g < B) : LB w' g nm a r := h.kept (hb.block g hg) hb.size
theorem LB.off (h : LB w g nm a r) {p : Addr} (hp : g ≠ p.block) (u : Value) : LB (w.setCell p u) g nm a r := h.kept (Below.heap_setCell _ _ _ _ hp) (by rw [size_set]; exact Nat.le_refl _)
theorem LB.setA (h : LB w g nm a r) (v : Value) : LB (w.setCell ⟨g, 1, none⟩ v) g nm v r where
  c0 := by rw [World.cell?_setCell_other _ _ _ _ (addr_ne (by omega))]; exact h.c0
  c1 := World.cell?_setCell_same _ _ _ h.c1
  c2 := by rw [World.cell?_setCell_other _ _ _ _ (addr_ne (by omega))]; exact h.c2
  fr := fun j => by rw [World.frozen?_setCell]; exact h.fr j
  lt := by rw [size_set]; exact h.lt
theorem LB.setR (h : LB w g nm a r) (v : Value) : LB (w.setCell ⟨g, 2, none⟩ v) g nm a v where
  c0 := by rw [World.cell?_setCell_other _ _ _ _ (addr_ne (by omega))]; exact h.c0
  c1 := by rw [World.cell?_setCell_other _ _ _ _ (addr_ne (by omega))]; exact h.c1
  c2 := World.cell?_setCell_same _ _ _ h.c2
  fr := fun j => by rw [World.frozen?_setCell]; exact h.fr j
  lt := by rw [size_set]; exact h.lt
end
/-- A line under way, and the result's box, still empty. -/
structure LSt (w : World) (B r0 g : Nat) (nm : ByteArray) (va vb : Value) (us vs : List Int) : Prop where
  c : LB w g nm va vb
  z : LB w r0 ⟨#[]⟩ (.slice none 0 0) (.slice none 0 0)
  gB : g < B
  rB : r0 < B
  ne : r0 ≠ g
  u : OwnI w B va us
  v : OwnI w B vb vs
  ap : ∀ X, va.ownBlock = some X → vb.ownBlock ≠ some X
section
variable {w w' : World} {B r0 g : Nat} {nm : ByteArray} {va vb v' : Value} {us vs : List Int} {y : Int}
theorem LSt.keep (h : LSt w B r0 g nm va vb us vs) (hs : ∀ X, X < w.heap.size → w'.heap[X]? = w.heap[X]?) (hz : w.heap.size ≤ w'.heap.size) : LSt w' B r0 g nm va vb us vs :=
  ⟨h.c.kept (hs g h.c.lt) hz, h.z.kept (hs r0 h.z.lt) hz, h.gB, h.rB, h.ne, h.u.kept fun X hX => hs X (own_lt h.u X hX).2, h.v.kept fun X hX => hs X (own_lt h.v X hX).2, h.ap⟩
theorem LSt.call (h : LSt w B r0 g nm va vb us vs) (hb : Below w.heap.size w w') : LSt w' B r0 g nm va vb us vs := h.keep (fun X hX => hb.block X hX) hb.size
theorem LSt.drewN (h : LSt w B r0 g nm va vb us vs) (n : Nat) : LSt (w.drewN n) B r0 g nm va vb us vs := h.keep (fun _ _ => rfl) (Nat.le_refl _)
theorem LSt.start (hc : LB w g nm (.slice none 0 0) (.slice none 0 0)) (hz : LB w r0 ⟨#[]⟩ (.slice none 0 0) (.slice none 0 0)) (hg : g < B) (hr : r0 < B) (hne : r0 ≠ g) : LSt w B r0 g nm (.slice none 0 0) (.slice none 0 0) [] [] :=
  ⟨hc, hz, hg, hr, hne, OwnE.nil, OwnE.nil, fun X hX => by simp [Value.ownBlock] at hX⟩
theorem LSt.addU (h : LSt w B r0 g nm va vb us vs) (ho : OwnI w' B v' (us ++ [y])) (hg : Grew w w' va v') : LSt (w'.setCell ⟨g, 1, none⟩ v') B r0 g nm v' vb (us ++ [y]) vs where
  c := (h.c.kept (hg.keep g h.c.lt (own_ne h.u h.gB)) hg.size).setA _
  z := (h.z.kept (hg.keep r0 h.z.lt (own_ne h.u h.rB)) hg.size).off (p := ⟨g, 1, none⟩) h.ne _
  gB := h.gB
  rB := h.rB
  ne := h.ne
  u := ho.offS (p := ⟨g, 1, none⟩) h.gB _
  v := (hg.own h.v (fun X hX e => h.ap X e hX)).offS (p := ⟨g, 1, none⟩) h.gB _
  ap := fun X hX e => hg.ne (own_lt h.v X e).2 (fun q => h.ap X q e) hX
theorem LSt.addV (h : LSt w B r0 g nm va vb us vs) (ho : OwnI w' B v' (vs ++ [y])) (hg : Grew w w' vb v') : LSt (w'.setCell ⟨g, 2, none⟩ v') B r0 g nm va v' us (vs ++ [y]) where
  c := (h.c.kept (hg.keep g h.c.lt (own_ne h.v h.gB)) hg.size).setR _
  z := (h.z.kept (hg.keep r0 h.z.lt (own_ne h.v h.rB)) hg.size).off (p := ⟨g, 2, none⟩) h.ne _
  gB := h.gB
  rB := h.rB
  ne := h.ne
  u := (hg.own h.u (fun X hX e => h.ap X hX e)).offS (p := ⟨g, 2, none⟩) h.gB _
  v := ho.offS (p := ⟨g, 2, none⟩) h.gB _
  ap := fun X hX e => hg.ne (own_lt h.u X hX).2 (fun q => h.ap X hX q) e
/-- The line, as its cells. -/
theorem LSt.lz {A R : Option Addr} {ca cr : Nat} (h : LSt w B r0 g nm va vb us vs) (ea : va = .slice A us.length ca) (er : vb = .slice R vs.length cr) : ∃ p r, LzAt w ⟨nm, A, us.length, ca, R, vs.length, cr, p, r, B, w.heap.size⟩ ⟨nm, us, vs⟩ := by
  have hA : ∃ p, IntsIn w (Zone.one p) A us ∧ (0 < us.length → B ≤ p ∧ p < w.heap.size ∧ va.ownBlock = some p) ∧ CapOk us.length ca := by
    obtain ⟨A', ca', e', c1, c2, hi⟩ := h.u.ints
    have e2 : Value.slice A us.length ca = .slice A' us.length ca' := ea.symm.trans e'
    simp only [Value.slice.injEq, true_and] at e2
    obtain ⟨rfl, rfl⟩ := e2
    rcases Nat.eq_zero_or_pos us.length with h0 | h0
    · exact ⟨0, fun hx => by omega, fun hx => by omega, c1, c2⟩
    · obtain ⟨p, cap, e3, p1, p2, _, p5⟩ := own_at h.u h0
      have e4 : Value.slice A us.length ca = .slice (some ⟨p, 0, none⟩) us.length cap := ea.symm.trans e3
      simp only [Value.slice.injEq] at e4
      exact ⟨p, Sl.one (fun _ _ _ _ _ _ h => h) hi (fun _ => ⟨0, e4.1⟩), fun _ => ⟨p1, p2, p5⟩, c1, c2⟩
  have hR : ∃ p, IntsIn w (Zone.one p) R vs ∧ (0 < vs.length → B ≤ p ∧ p < w.heap.size ∧ vb.ownBlock = some p) ∧ CapOk vs.length cr := by
    obtain ⟨A', ca', e', c1, c2, hi⟩ := h.v.ints
    have e2 : Value.slice R vs.length cr = .slice A' vs.length ca' := er.symm.trans e'
    simp only [Value.slice.injEq, true_and] at e2
    obtain ⟨rfl, rfl⟩ := e2
    rcases Nat.eq_zero_or_pos vs.length with h0 | h0
    · exact ⟨0, fun hx => by omega, fun hx => by omega, c1, c2⟩
    · obtain ⟨p, cap, e3, p1, p2, _, p5⟩ := own_at h.v h0
      have e4 : Value.slice R vs.length cr = .slice (some ⟨p, 0, none⟩) vs.length cap := er.symm.trans e3
      simp only [Value.slice.injEq] at e4
      exact ⟨p, Sl.one (fun _ _ _ _ _ _ h => h) hi (fun _ => ⟨0, e4.1⟩), fun _ => ⟨p1, p2, p5⟩, c1, c2⟩
  obtain ⟨p, a1, a2, a3⟩ := hA
  obtain ⟨r, b1, b2, b3⟩ := hR
  exact ⟨p, r, rfl, rfl, rfl, a1, b1, fun hx => ⟨(a2 hx).1, (a2 hx).2.1⟩, fun hx => ⟨(b2 hx).1, (b2 hx).2.1⟩, fun hx hy e => h.ap p (a2 hx).2.2 (by rw [(b2 hy).2.2]; exact congrArg some e.symm), a3, b3⟩
end
/-- What a parse of a line hands back. -/
def RetLz (o : Option LineD) (w : World) (e : Ending) (w' : World) : Prop :=
  ∃ y : LZ, e = .returned (.tuple #[.agg #[.string y.nm, .slice y.sA y.ns y.cs, .slice y.rA y.nr y.cr], .bool o.isSome]) ∧ (∀ z, o = some z → LzAt w' y z ∧ w.heap.size ≤ y.lo ∧ y.hi ≤ w'.heap.size) ∧ Below w.heap.size w w'
theorem retLz_zero {o : Option LineD} {w w' : World} (h : o = none) (hb : Below w.heap.size w w') : RetLz o w (.returned (.tuple #[.agg #[.string ⟨#[]⟩, .slice none 0 0, .slice none 0 0], .bool false])) w' :=
  ⟨⟨⟨#[]⟩, none, 0, 0, none, 0, 0, 0, 0, 0, 0⟩, by rw [h]; rfl, fun z hz => by (rw [h] at hz; cases hz), hb⟩
theorem retLz_some {o : Option LineD} {w w' : World} {e : Ending} {nm : ByteArray} {A R : Option Addr} {ca cr : Nat} {us vs : List Int} {p r lo hi : Nat} (h : o = some ⟨nm, us, vs⟩) (hz : LzAt w' ⟨nm, A, us.length, ca, R, vs.length, cr, p, r, lo, hi⟩ ⟨nm, us, vs⟩) (h1 : w.heap.size ≤ lo) (h2 : hi ≤ w'.heap.size) (hb : Below w.heap.size w w') (he : e = .returned (.tuple #[.agg #[.string nm, .slice A us.length ca, .slice R vs.length cr], .bool true])) : RetLz o w e w' :=
  ⟨⟨nm, A, us.length, ca, R, vs.length, cr, p, r, lo, hi⟩, by rw [h]; exact he, fun z hq => by (rw [h] at hq; simp only [Option.some.injEq] at hq; subst hq; exact ⟨hz, h1, h2⟩), hb⟩
theorem LzAt.set {w : World} {y : LZ} {x : LineD} (h : LzAt w y x) {p : Addr} (hp : p.block < y.lo) (u : Value) : LzAt (w.setCell p u) y x := h.keep fun c h1 _ => Same.set w (by omega) u

/-! ### Words in memory -/
theorem words_nth {ws : List Wd} {k : Nat} (h : k < ws.length) : nthS (ws.map bs) k = bs (ws.getD k []) := by
  unfold nthS
  rw [List.getD_eq_getElem?_getD, List.getElem?_map, List.getD_eq_getElem?_getD, List.getElem?_eq_getElem h]
  rfl
theorem words_get {ws : List Wd} {w : World} {Z : Zone} {A : Option Addr} (h : StrsIn w Z A (ws.map bs)) (h0 : 0 < ws.length) : ∃ b o, A = some ⟨b, o, none⟩ ∧ Z.ok b ∧ ∀ k, k < ws.length → w.cell? ⟨b, o + k, none⟩ = some (.string (bs (ws.getD k []))) := by
  obtain ⟨b, o, e, hb, _, hc⟩ := h (by simpa using h0)
  refine ⟨b, o, e, hb, fun k hk => ?_⟩
  have h1 : w.cell? ⟨b, o + k, none⟩ = some (.string (nthS (ws.map bs) k)) := hc k (by simpa using hk)
  rw [h1, words_nth hk]
theorem drop_getW {P : List Wd} {k : Nat} (h : k < P.length) : P.drop k = P.getD k [] :: P.drop (k + 1) := by
  rw [List.drop_eq_getElem_cons h, List.getD_eq_getElem?_getD, List.getElem?_eq_getElem h]
  rfl
theorem pLnE_num {ss : List ByteArray} {i : Nat} {w : Wd} {r : List Wd} {y : LineD} (h : i % 2 = 1) (hr : rdK w = true) : pLnE ss i (w :: r) y = pLnE ss (i + 1) r (lnR y (rdV w)) := by
  conv => lhs; unfold pLnE
  rw [if_pos h, if_pos hr]
theorem pLnE_bad {ss : List ByteArray} {i : Nat} {w : Wd} {r : List Wd} {y : LineD} (h : i % 2 = 1) (hr : rdK w = false) : pLnE ss i (w :: r) y = none := by
  unfold pLnE
  rw [if_pos h, if_neg (by rw [hr]; simp)]
theorem pLnE_stop {ss : List ByteArray} {i : Nat} {w : Wd} {r : List Wd} {y : LineD} (h : ¬ i % 2 = 1) (hr : ¬ ixS ss (bs w) < 0) : pLnE ss i (w :: r) y = pLnE ss (i + 1) r (lnS y (ixS ss (bs w))) := by
  conv => lhs; unfold pLnE
  rw [if_neg h, if_neg hr]
theorem pLnE_no {ss : List ByteArray} {i : Nat} {w : Wd} {r : List Wd} {y : LineD} (h : ¬ i % 2 = 1) (hr : ixS ss (bs w) < 0) : pLnE ss i (w :: r) y = none := by
  unfold pLnE
  rw [if_neg h, if_pos hr]
theorem sLnE_num {ss : List ByteArray} {i : Nat} {w : Wd} {r : List Wd} {y : LineD} (h : ¬ i % 2 = 0) (hr : rdK w = true) : sLnE ss i (w :: r) y = sLnE ss (i + 1) r (lnR y (rdV w)) := by
  conv => lhs; unfold sLnE
  rw [if_neg h, if_pos hr]
theorem sLnE_bad {ss : List ByteArray} {i : Nat} {w : Wd} {r : List Wd} {y : LineD} (h : ¬ i % 2 = 0) (hr : rdK w = false) : sLnE ss i (w :: r) y = none := by
  unfold sLnE
  rw [if_neg h, if_neg (by rw [hr]; simp)]
theorem sLnE_stop {ss : List ByteArray} {i : Nat} {w : Wd} {r : List Wd} {y : LineD} (h : i % 2 = 0) : sLnE ss i (w :: r) y = sLnE ss (i + 1) r (lnS y (ixS ss (bs w))) := by
  conv => lhs; unfold sLnE
  rw [if_pos h]
/-- Times, whatever the text. -/
theorem parseTimeW_any (l : Wd) (s : ByteArray) (w : World) (hl : s = bs l) (hs : s.size ≤ 9223372036854775807) :
    Calls Tryd.prog 57 #[.string s] w fun e w' => e = .returned (.tuple #[.int .i64 (tmV l), .bool (tmK l)]) ∧ ∃ n : Nat, w' = w.drewN n := by
  by_cases h5 : s.size = 5
  · refine (parseTime_any s h5 w).mono fun e w' h => ?_
    have hl5 : l.length = 5 := by rw [← h5, hl, bs_size]
    subst hl
    by_cases hok : ptOk (bt (bs l) 0) (bt (bs l) 1) (bt (bs l) 2) (bt (bs l) 3) (bt (bs l) 4)
    · have hk : tmK l = true := decide_eq_true ⟨hl5, hok⟩
      have hv : tmV l = ptVal (bt (bs l) 0) (bt (bs l) 1) (bt (bs l) 3) (bt (bs l) 4) := by unfold tmV; rw [if_pos hk]; rfl
      rw [hk, hv]
      exact h.to_yes hok
    · have hk : tmK l = false := decide_eq_false (fun h => hok h.2)
      have hv : tmV l = 0 := by unfold tmV; rw [hk]; simp
      rw [hk, hv]
      exact h.to_no hok
  · have hne : ((s.size : Int) != 5) = true := by simp; omega
    have hne2 : ((s.size : Int) == 5) = false := by simp; omega
    have HK : Hid (tmK l = false) := Lib.hid (decide_eq_false (fun h => h5 (by rw [hl, bs_size]; exact h.1)))
    have HV : Hid (tmV l = 0) := Lib.hid (by unfold tmV; rw [HK.out]; simp)
    clear h5 hl
    go_enter Tryd.func57, Tryd.ntmps57
    go_wp2
    go_ret2
    exact ⟨by rw [HK.out, HV.out]; rfl, 0, rfl⟩
theorem l4ParseW_any (l : Wd) (s : ByteArray) (w : World) (hl : s = bs l) (hs : s.size ≤ 9223372036854775807) :
    Calls Tryd.prog 29 #[.string s] w fun e w' => e = .returned (.tuple #[.int .i64 (tmV l), .bool (tmK l)]) ∧ ∃ n : Nat, w' = w.drewN n := by
  by_cases h5 : s.size = 5
  · refine (l4Parse_any s h5 w).mono fun e w' h => ?_
    have hl5 : l.length = 5 := by rw [← h5, hl, bs_size]
    subst hl
    by_cases hok : ptOk (bt (bs l) 0) (bt (bs l) 1) (bt (bs l) 2) (bt (bs l) 3) (bt (bs l) 4)
    · have hk : tmK l = true := decide_eq_true ⟨hl5, hok⟩
      have hv : tmV l = ptVal (bt (bs l) 0) (bt (bs l) 1) (bt (bs l) 3) (bt (bs l) 4) := by unfold tmV; rw [if_pos hk]; rfl
      rw [hk, hv]
      exact h.to_yes hok
    · have hk : tmK l = false := decide_eq_false (fun h => hok h.2)
      have hv : tmV l = 0 := by unfold tmV; rw [hk]; simp
      rw [hk, hv]
      exact h.to_no hok
  · have hne : ((s.size : Int) != 5) = true := by simp; omega
    have hne2 : ((s.size : Int) == 5) = false := by simp; omega
    have HK : Hid (tmK l = false) := Lib.hid (decide_eq_false (fun h => h5 (by rw [hl, bs_size]; exact h.1)))
    have HV : Hid (tmV l = 0) := Lib.hid (by unfold tmV; rw [HK.out]; simp)
    clear h5 hl
    go_enter Tryd.func29, Tryd.ntmps29
    go_wp2
    go_ret2
    exact ⟨by rw [HK.out, HV.out]; rfl, 0, rfl⟩
end

/-! ### impl.parseLine: what it answers. -/
section
open Go.ChangeShapes Go.WideShapes Go.ChangeAt Go.RowKit Go.PlainAid
set_option linter.unusedVariables false
set_option linter.unusedSimpArgs false

set_option maxRecDepth 100000 in
set_option maxHeartbeats 8000000 in
theorem parseLine_any (ss : List ByteArray) (nl : Nat) (A L : Option Addr) (ca cl : Nat) (W : Option Addr) (ws : List Wd) (w : World) (hA : StrsIn w (Zone.below w.heap.size) A ss) (hW : StrsIn w (Zone.below w.heap.size) W (ws.map bs)) (hn : ss.length ≤ 1048576) (hz : ws.length ≤ 1048576) (hs : ∀ k, (ws.getD k []).length ≤ 1048576) :
    Calls Tryd.prog 35 #[.agg #[.slice A ss.length ca, .slice L nl cl], .slice W ws.length ws.length] w (RetLz (pLn ss ws) w) := by
  obtain ⟨W0, hW0⟩ : ∃ W0, W0 = ((w.alloc (.cells #[.slice A ss.length ca, .slice L nl cl] 25)).alloc (.cells #[.string ⟨#[]⟩, .slice none 0 0, .slice none 0 0] 47)) := ⟨_, rfl⟩
  have HZ0 : Hid (LB W0 (w.heap.size + 1) ⟨#[]⟩ (.slice none 0 0) (.slice none 0 0)) := Lib.hid (by rw [hW0]; exact ⟨by go_simp, by go_simp, by go_simp, fun j => by go_simp, by simp⟩)
  have HB0 : Hid (Below w.heap.size w W0) := Lib.hid (by rw [hW0]; go_grown)
  have HN0 : Hid (W0.cell? ⟨w.heap.size, 0, none⟩ = some (.slice A ss.length ca)) := Lib.hid (by rw [hW0]; go_simp)
  have HSZ : Hid (W0.heap.size = w.heap.size + 1 + 1) := Lib.hid (by rw [hW0]; simp)
  have HA := Lib.hid hA
  have HWW := Lib.hid hW
  have HS := Lib.hid hs
  clear hA hW hs
  by_cases h3 : ws.length < 3
  · have HR : Hid (pLn ss ws = none) := Lib.hid (by unfold pLn; rw [if_pos (.inl h3)])
    have h3i : (ws.length : Int) < 3 := by omega
    go_enter Tryd.func35, Tryd.ntmps35
    go_upto_region 1 with fail
    rw [← hW0]
    clear hW0
    obtain ⟨z0, z1, z2, zf, zl⟩ := HZ0.out
    have zf0 := zf 0
    have zf1 := zf 1
    have zf2 := zf 2
    go_wp2_with fail
    refine bodyPost_ret (v := .tuple #[.agg #[.string ⟨#[]⟩, .slice none 0 0, .slice none 0 0], .bool false]) (by simp [results, Tryd.results35, go_sem, z0, z1, z2]) rfl ?_
    refine retLz_zero HR.out ?_
    repeat' (refine Below.setCell ?_ (by simp) _)
    exact HB0.out
  · have h3i : ¬ ((ws.length : Int) < 3) := by omega
    by_cases h2 : ws.length % 2 = 0
    · have HR : Hid (pLn ss ws = none) := Lib.hid (by unfold pLn; rw [if_pos (.inr h2)])
      have h2a : (((ws.length : Int) % 2) == 0) = true := by simp; omega
      have h2b : (Int.tmod (ws.length : Int) 2 == 0) = true := by rw [Int.tmod_eq_emod_of_nonneg (by omega)]; exact h2a
      go_enter Tryd.func35, Tryd.ntmps35
      go_upto_region 1 with fail
      rw [← hW0]
      clear hW0
      obtain ⟨z0, z1, z2, zf, zl⟩ := HZ0.out
      have zf0 := zf 0
      have zf1 := zf 1
      have zf2 := zf 2
      go_wp2_with fail
      refine bodyPost_ret (v := .tuple #[.agg #[.string ⟨#[]⟩, .slice none 0 0, .slice none 0 0], .bool false]) (by simp [results, Tryd.results35, go_sem, z0, z1, z2]) rfl ?_
      refine retLz_zero HR.out ?_
      repeat' (refine Below.setCell ?_ (by simp) _)
      exact HB0.out
    · have HP0 : Hid (pLnE ss 0 (ws.drop (2 + 0)) ⟨bs (ws.getD 1 []), [], []⟩ = pLn ss ws) := Lib.hid (by unfold pLn; rw [if_neg (by omega)])
      have h2a : (((ws.length : Int) % 2) == 0) = false := by simp; omega
      have h2b : (Int.tmod (ws.length : Int) 2 == 0) = false := by rw [Int.tmod_eq_emod_of_nonneg (by omega)]; exact h2a
      obtain ⟨b, o, rfl, hbl, hcw⟩ := words_get HWW.out (by omega)
      have hb0 : b < w.heap.size := hbl
      have HW0 : Hid (∀ k, k < ws.length → W0.cell? ⟨b, o + k, none⟩ = some (.string (bs (ws.getD k [])))) := Lib.hid (fun k hk => (HB0.out.cell (p := ⟨b, o + k, none⟩) hb0).trans (hcw k hk))
      clear hcw hbl
      obtain ⟨nm, hnm⟩ : ∃ nm, nm = bs (ws.getD 1 []) := ⟨_, rfl⟩
      have hw1 : W0.cell? ⟨b, o + 1, none⟩ = some (.string nm) := by rw [hnm]; exact HW0.out 1 (by omega)
      rw [← hnm] at HP0
      clear hnm
      obtain ⟨n, hn2⟩ : ∃ n, ws.length = n + 2 := ⟨ws.length - 2, by omega⟩
      have HLN := Lib.hid hn2
      have hn1 : n ≤ 1048576 := by omega
      have hn0 : 0 < n := by omega
      rw [hn2]
      clear h3i h2a h2b
      have h3i : ¬ ((n : Int) + 2 < 3) := by omega
      have h2a : (((n : Int) % 2) == 0) = false := by simp; omega
      clear hn2 h3 h2 hz
      obtain ⟨W2, hW2⟩ : ∃ W2, W2 = W0.alloc (.cells #[.string nm, .slice none 0 0, .slice none 0 0] 47) := ⟨_, rfl⟩
      have HS2 : Hid ((w.heap.size + 1 + 1 + 1) ≤ W2.heap.size) := Lib.hid (by rw [hW2]; simp [HSZ.out])
      have hb2 : Below (w.heap.size + 1 + 1) W0 W2 := by rw [hW2, ← HSZ.out]; go_grown
      have HB2 := Lib.hid (HB0.out.trans (hb2.mono (show w.heap.size ≤ (w.heap.size + 1 + 1) by omega)))
      have H2 : Hid (LSt W2 (w.heap.size + 1 + 1 + 1) (w.heap.size + 1) (w.heap.size + 1 + 1) nm (.slice none 0 0) (.slice none 0 0) [] []) := Lib.hid (LSt.start (by rw [hW2, ← HSZ.out]; exact ⟨by go_simp, by go_simp, by go_simp, fun j => by go_simp, by simp⟩) (HZ0.out.below hb2 (by omega)) (by omega) (by omega) (by omega))
      have HN2 : Hid (W2.cell? ⟨w.heap.size, 0, none⟩ = some (.slice A ss.length ca)) := Lib.hid ((hb2.cell (p := ⟨w.heap.size, 0, none⟩) (show w.heap.size < (w.heap.size + 1 + 1) by omega)).trans HN0.out)
      have HWc : Hid (∀ k, k < ws.length → W2.cell? ⟨b, o + k, none⟩ = some (.string (bs (ws.getD k [])))) := Lib.hid (fun k hk => (hb2.cell (p := ⟨b, o + k, none⟩) (show b < (w.heap.size + 1 + 1) by omega)).trans (HW0.out k hk))
      have HA2 : Hid (StrsIn W2 (Zone.below (w.heap.size + 1 + 1)) A ss) := Lib.hid ((HA.out.at_below HB2.out).mono (Zone.below_le (by omega)))
      clear hb2
      go_enter Tryd.func35, Tryd.ntmps35
      go_upto_region 1 with fail
      rw [← hW0]
      clear hW0
      have hsz := HSZ.out
      go_upto_region 4 with fail
      (try rw [hsz])
      rw [← hW2]
      clear hW2 hw1 hsz
      go_wp2_with fail
      go_loopw [29] (fun v wr => ∃ (k : Nat) (us vs : List Int) (va vb : Value), v = .int .i64 k ∧ k ≤ n ∧ us.length + vs.length ≤ k ∧ pLnE ss k (ws.drop (2 + k)) ⟨nm, us, vs⟩ = pLn ss ws ∧ Below (w.heap.size + 1 + 1) W2 wr ∧ LSt wr (w.heap.size + 1 + 1 + 1) (w.heap.size + 1) (w.heap.size + 1 + 1) nm va vb us vs) (fun v _ => n - (intOf v).toNat)
      case atStart => exact ⟨0, [], [], _, _, by go_num, by omega, by simp, HP0.out, Below.refl _ _, H2.out⟩
      case round =>
        obtain ⟨k, us, vs, va, vb, rfl, hk, hul, hpe, hb3, hst3⟩ := hrel
        have HPE := Lib.hid hpe
        have HK3 := Lib.hid hb3
        have H3 := Lib.hid hst3
        have HB3 := Lib.hid (HB2.out.trans (hb3.mono (show w.heap.size ≤ (w.heap.size + 1 + 1) by omega)))
        clear hpe hb3 hst3
        obtain ⟨wo, hwo⟩ : ∃ wo, wo = wr := ⟨_, rfl⟩
        rw [← hwo] at HK3 H3 HB3 ⊢
        clear hwo
        by_cases hlt : k < n
        · have hki : (k : Int) < (n : Int) := by omega
          have hk0 : (0 : Int) ≤ (k : Int) := by omega
          obtain ⟨pl, hpl⟩ : ∃ pl, pl = ws.getD (2 + k) [] := ⟨_, rfl⟩
          have HDR : Hid (ws.drop (2 + k) = pl :: ws.drop (2 + (k + 1))) := Lib.hid (by rw [hpl]; exact drop_getW (by rw [HLN.out]; omega))
          obtain ⟨p, hp⟩ : ∃ p, p = bs pl := ⟨_, rfl⟩
          have hcp : wo.cell? ⟨b, o + 2 + k, none⟩ = some (.string p) := by
            rw [hp, hpl, HK3.out.cell (p := ⟨b, o + 2 + k, none⟩) (show b < (w.heap.size + 1 + 1) by omega)]
            have := HWc.out (2 + k) (by rw [HLN.out]; omega)
            rw [← Nat.add_assoc] at this
            exact this
          have HPP := Lib.hid hp
          have hps : p.size ≤ 1048576 := by rw [hp, bs_size, hpl]; exact HS.out _
          have hnw : wo.cell? ⟨w.heap.size, 0, none⟩ = some (.slice A ss.length ca) := (HK3.out.cell (p := ⟨w.heap.size, 0, none⟩) (show w.heap.size < (w.heap.size + 1 + 1) by omega)).trans HN2.out
          have HA3 : Hid (StrsIn wo (Zone.below (w.heap.size + 1 + 1)) A ss) := Lib.hid (HA2.out.at_below HK3.out)
          have HRF : Hid (pLnE ss k (pl :: ws.drop (2 + (k + 1))) ⟨nm, us, vs⟩ = none → pLn ss ws = none) := Lib.hid (fun h => by rw [← HPE.out, HDR.out]; exact h)
          clear hp hpl
          have e1 : us.length ≤ 16777216 := by omega
          have e1v : vs.length ≤ 16777216 := by omega
          obtain ⟨c0, c1, c2, cf, cl⟩ := H3.out.c
          have cf1 := cf 1
          have cf2 := cf 2
          have e2 : (w.heap.size + 1 + 1 + 1) ≤ wo.heap.size := Nat.le_trans HS2.out HK3.out.size
          by_cases hodd : k % 2 = 1
          · have HOD := Lib.hid hodd
            have ho1 : ((k : Int) % 2 == 1) = true := by simp; omega
            have ho2 : (Int.tmod (k : Int) 2 == 1) = true := by rw [Int.tmod_eq_emod_of_nonneg (by omega)]; exact ho1
            have ho3 : ((k % 2 : Nat) == 1) = true := by rw [hodd]; rfl
            have HL := implParseInt_any p wo (by omega)
            have e9 : p.data.toList = pl := by rw [HPP.out, bs_list]
            rw [e9] at HL
            obtain ⟨x, hx⟩ : ∃ x, x = rdV pl := ⟨_, rfl⟩
            obtain ⟨kx, hkx⟩ : ∃ kx, kx = rdK pl := ⟨_, rfl⟩
            rw [← hx, ← hkx] at HL
            have HL := Lib.hid HL
            have HX := Lib.hid hx
            have HKX := Lib.hid hkx
            clear hx hkx e9 hodd
            go_wp2_with fail
            refine HL.out.mono ?_
            rintro e w4 ⟨rfl, q4, hq4⟩
            have H4 := Lib.hid (show LSt w4 (w.heap.size + 1 + 1 + 1) (w.heap.size + 1) (w.heap.size + 1 + 1) nm va vb us vs by rw [hq4]; exact H3.out.drewN q4)
            have HK4 := Lib.hid (show Below (w.heap.size + 1 + 1) W2 w4 by rw [hq4]; exact bel_drewN HK3.out q4)
            have HB4 := Lib.hid (HB2.out.trans (HK4.out.mono (show w.heap.size ≤ (w.heap.size + 1 + 1) by omega)))
            have e3 : (w.heap.size + 1 + 1 + 1) ≤ w4.heap.size := by rw [hq4]; exact e2
            clear hq4 c0 c1 c2 cf cl cf1 cf2 hcp hnw
            cases kx
            · have HR := Lib.hid (HRF.out (pLnE_bad HOD.out HKX.out.symm))
              obtain ⟨z0, z1, z2, zf, zl⟩ := H4.out.z
              have zf0 := zf 0
              have zf1 := zf 1
              have zf2 := zf 2
              go_wp2_with fail
              refine bodyPost_ret (v := .tuple #[.agg #[.string ⟨#[]⟩, .slice none 0 0, .slice none 0 0], .bool false]) (by simp [results, Tryd.results35, go_sem, z0, z1, z2]) rfl ?_
              refine retLz_zero HR.out ?_
              repeat' (refine Below.setCell ?_ (by simp) _)
              exact HB4.out
            · have HP2 : Hid (pLnE ss (k + 1) (ws.drop (2 + (k + 1))) ⟨nm, us, vs ++ [x]⟩ = pLn ss ws) := Lib.hid (by
                rw [← HPE.out, HDR.out, pLnE_num HOD.out HKX.out.symm, ← HX.out]
                rfl)
              obtain ⟨c0, c1, c2, cf, cl⟩ := H4.out.c
              have cf2 := cf 2
              go_wp2_with (at_builtin; go_loud (refine wp_appGI rfl _ _ rfl (w.heap.size + 1 + 1 + 1) _ vs x _ H4.out.v rfl _ rfl (by simp) e1v e3 ?_; intro v' w' ho' hb' hs' hat' hz'; obtain ⟨A', n2, c', rfl⟩ := OwnE.formI ho'; have HN := Lib.hid (H4.out.addV ho' (Grew.of_hat hs' hat' hz')); have HB' := Lib.hid (HK4.out.trans (hb'.mono (by omega))); have hcc := H4.out.c.kept (hs' (w.heap.size + 1 + 1) H4.out.c.lt (own_ne H4.out.v H4.out.gB)) hz'; have q2 := hcc.c2; have p2 := hcc.fr 2; have hz8 := Nat.le_trans e3 hz'; clear hcc ho' hb' hs' hat' hz'))
              go_roundw
              case rel => exact ⟨k + 1, us, vs ++ [x], _, _, by go_num, by omega, by simp; omega, HP2.out, HB'.out.setCell (p := ⟨(w.heap.size + 1 + 1), 2, none⟩) (by simp) _, HN.out⟩
              case measure => simp [intOf]; omega
          · have HOD := Lib.hid hodd
            have ho1 : ((k : Int) % 2 == 1) = false := by simp; omega
            obtain ⟨x, hx⟩ : ∃ x, x = ixS ss p := ⟨_, rfl⟩
            have HL := slicesIndexS_any A ca ss p wo _ HA3.out hn
            rw [← hx] at HL
            have HL := Lib.hid HL
            have HX : Hid (ixS ss (bs pl) = x) := Lib.hid (by rw [hx, HPP.out])
            clear hx hodd
            by_cases hneg : x < 0
            · have HR := Lib.hid (HRF.out (pLnE_no HOD.out (by rw [HX.out]; exact hneg)))
              obtain ⟨z0, z1, z2, zf, zl⟩ := H3.out.z
              have zf0 := zf 0
              have zf1 := zf 1
              have zf2 := zf 2
              go_wp2_with (go_at_call 55; refine HL.out.mono ?_; rintro e w4 ⟨rfl, rfl⟩)
              refine bodyPost_ret (v := .tuple #[.agg #[.string ⟨#[]⟩, .slice none 0 0, .slice none 0 0], .bool false]) (by simp [results, Tryd.results35, go_sem, z0, z1, z2]) rfl ?_
              refine retLz_zero HR.out ?_
              repeat' (refine Below.setCell ?_ (by simp) _)
              exact HB3.out
            · have HP2 : Hid (pLnE ss (k + 1) (ws.drop (2 + (k + 1))) ⟨nm, us ++ [x], vs⟩ = pLn ss ws) := Lib.hid (by
                rw [← HPE.out, HDR.out, pLnE_stop HOD.out (by rw [HX.out]; exact hneg), HX.out]
                rfl)
              go_wp2_with (first
                | (go_at_call 55; refine HL.out.mono ?_; rintro e w4 ⟨rfl, rfl⟩)
                | (at_builtin; go_loud (refine wp_appGI rfl _ _ rfl (w.heap.size + 1 + 1 + 1) _ us x _ H3.out.u rfl _ rfl (by simp) e1 e2 ?_; intro v' w' ho' hb' hs' hat' hz'; obtain ⟨A', n2, c', rfl⟩ := OwnE.formI ho'; have HN := Lib.hid (H3.out.addU ho' (Grew.of_hat hs' hat' hz')); have HB' := Lib.hid (HK3.out.trans (hb'.mono (by omega))); have hcc := H3.out.c.kept (hs' (w.heap.size + 1 + 1) H3.out.c.lt (own_ne H3.out.u H3.out.gB)) hz'; have q1 := hcc.c1; have p1 := hcc.fr 1; have hz8 := Nat.le_trans e2 hz'; clear hcc ho' hb' hs' hat' hz')))
              go_roundw
              case rel => exact ⟨k + 1, us ++ [x], vs, _, _, by go_num, by omega, by simp; omega, HP2.out, HB'.out.setCell (p := ⟨(w.heap.size + 1 + 1), 1, none⟩) (by simp) _, HN.out⟩
              case measure => simp [intOf]; omega
        · obtain rfl : k = n := by omega
          have HR : Hid (pLn ss ws = some ⟨nm, us, vs⟩) := Lib.hid (by
            rw [← HPE.out, List.drop_eq_nil_of_le (by rw [HLN.out]; omega)]
            rfl)
          obtain ⟨A1, ca1, he1, _, _, _⟩ := H3.out.u.ints
          obtain ⟨R1, cr1, he2, _, _, _⟩ := H3.out.v.ints
          subst he1
          subst he2
          obtain ⟨pp, rr, hlz⟩ := H3.out.lz rfl rfl
          have HLZ := Lib.hid hlz
          have hBle := Nat.le_trans HS2.out HK3.out.size
          obtain ⟨c0, c1, c2, cf, cl⟩ := H3.out.c
          obtain ⟨z0, z1, z2, zf, zl⟩ := H3.out.z
          have zf0 := zf 0
          have zf1 := zf 1
          have zf2 := zf 2
          clear hlz
          go_wp2_with fail
          refine bodyPost_ret (v := .tuple #[.agg #[.string nm, .slice A1 us.length ca1, .slice R1 vs.length cr1], .bool true]) (by simp [results, Tryd.results35, go_sem, z0, z1, z2]) rfl ?_
          refine retLz_some HR.out (p := pp) (r := rr) (lo := (w.heap.size + 1 + 1 + 1)) (hi := wo.heap.size) ?_ (by omega) (by simp only [size_set]; exact Nat.le_refl _) ?_ rfl
          · repeat' (refine LzAt.set ?_ (by simp) _)
            exact HLZ.out
          · repeat' (refine Below.setCell ?_ (by simp) _)
            exact HB3.out
end

/-! ### impl.parseTrip: what it answers. -/
section
open Go.ChangeShapes Go.WideShapes Go.ChangeAt Go.RowKit Go.PlainAid
set_option linter.unusedVariables false
set_option linter.unusedSimpArgs false

/-- The empty trip in a box. -/
structure T0 (w : World) (g : Nat) : Prop where
  c0 : w.cell? ⟨g, 0, none⟩ = some (.int .i64 0)
  c1 : w.cell? ⟨g, 1, none⟩ = some (.int .i64 0)
  c2 : w.cell? ⟨g, 2, none⟩ = some (.int .i64 0)
  fr : ∀ j, w.frozen? ⟨g, j, none⟩ = false
  lt : g < w.heap.size
theorem T0.below {w w' : World} {g B : Nat} (h : T0 w g) (hb : Below B w w') (hg : g < B) : T0 w' g :=
  have s := Same.of_blk (hb.block g hg)
  ⟨(s 0).1.trans h.c0, (s 1).1.trans h.c1, (s 2).1.trans h.c2, fun j => (s j).2.trans (h.fr j), Nat.lt_of_lt_of_le h.lt hb.size⟩
/-- What the parse of a trip hands back. -/
def RetTp (o : Option I3) (w : World) (e : Ending) (w' : World) : Prop :=
  ∃ t : I3, e = .returned (.tuple #[.agg #[.int .i64 t.a, .int .i64 t.b, .int .i64 t.c], .bool o.isSome]) ∧ (∀ z, o = some z → t = z) ∧ Below w.heap.size w w'
theorem retTp_zero {o : Option I3} {w w' : World} (h : o = none) (hb : Below w.heap.size w w') : RetTp o w (.returned (.tuple #[.agg #[.int .i64 0, .int .i64 0, .int .i64 0], .bool false])) w' :=
  ⟨⟨0, 0, 0⟩, by rw [h]; rfl, fun z hz => by (rw [h] at hz; cases hz), hb⟩
theorem retTp_some {o : Option I3} {w w' : World} {a b c : Int} (h : o = some ⟨a, b, c⟩) (hb : Below w.heap.size w w') : RetTp o w (.returned (.tuple #[.agg #[.int .i64 a, .int .i64 b, .int .i64 c], .bool true])) w' :=
  ⟨⟨a, b, c⟩, by rw [h]; rfl, fun z hz => by (rw [h] at hz; simpa using hz), hb⟩
theorem indexN_any (g : Nat) (ls : List LineD) (s : ByteArray) (j : Int) (hj : j = ixS (namesOf ls) s) (w : World) (Z : Zone) (h : StrsIn w Z (some ⟨g, 0, none⟩) (namesOf ls)) (hm : ls.length ≤ 1048576) :
    Calls Tryd.prog 55 #[.slice (some ⟨g, 0, none⟩) ls.length ls.length, .string s] w fun e w' => e = .returned (.int .i64 j) ∧ w = w' := by
  have hq := slicesIndexS_any (some ⟨g, 0, none⟩) ls.length (namesOf ls) s w Z h (by rw [namesOf_length]; exact hm)
  rw [namesOf_length, ← hj] at hq
  exact hq
/-- The parse, step by step. -/
theorem pTr_four {ls : List LineD} {ws : List Wd} (h4 : ws.length = 4) (h1 : rdK (ws.getD 1 []) = true) : pTr ls ws = if ixS (namesOf ls) (bs (ws.getD 2 [])) < 0 ∨ tmK (ws.getD 3 []) = false then none else some ⟨rdV (ws.getD 1 []), ixS (namesOf ls) (bs (ws.getD 2 [])), tmV (ws.getD 3 [])⟩ := by
  unfold pTr
  rw [if_neg (by omega), if_neg (by rw [h1]; simp)]

set_option maxRecDepth 100000 in
set_option maxHeartbeats 8000000 in
theorem parseTrip_any (x : NetD) (A L : Option Addr) (ca cl : Nat) (W : Option Addr) (ws : List Wd) (w : World) (hL : LinesIn w (Zone.below w.heap.size) L x.lines) (hW : StrsIn w (Zone.below w.heap.size) W (ws.map bs)) (hm : x.lines.length ≤ 1048576) (hz : ws.length ≤ 1048576) (hs : ∀ k, (ws.getD k []).length ≤ 1048576) :
    Calls Tryd.prog 36 #[.agg #[.slice A x.stops.length ca, .slice L x.lines.length cl], .slice W ws.length ws.length] w (RetTp (pTr x.lines ws) w) := by
  obtain ⟨W0, hW0⟩ : ∃ W0, W0 = ((w.alloc (.cells #[.slice A x.stops.length ca, .slice L x.lines.length cl] 25)).alloc (.cells #[.int .i64 0, .int .i64 0, .int .i64 0] 54)) := ⟨_, rfl⟩
  have HZ0 : Hid (T0 W0 (w.heap.size + 1)) := Lib.hid (by rw [hW0]; exact ⟨by go_simp, by go_simp, by go_simp, fun j => by go_simp, by simp⟩)
  have HB0 : Hid (Below w.heap.size w W0) := Lib.hid (by rw [hW0]; go_grown)
  have HN0 : Hid (W0.cell? ⟨w.heap.size, 0, none⟩ = some (.slice A x.stops.length ca) ∧ W0.cell? ⟨w.heap.size, 1, none⟩ = some (.slice L x.lines.length cl)) := Lib.hid (by rw [hW0]; exact ⟨by go_simp, by go_simp⟩)
  have HSZ : Hid (w.heap.size + 1 < W0.heap.size) := Lib.hid (by rw [hW0]; simp)
  have HL := Lib.hid hL
  have HWW := Lib.hid hW
  have HS := Lib.hid hs
  clear hL hW hs
  by_cases h4 : ws.length = 4
  · have h4i : ((ws.length : Int) != 4) = false := by rw [h4]; rfl
    obtain ⟨b, o, rfl, hbl, hcw⟩ := words_get HWW.out (by omega)
    have hb0 : b < w.heap.size := hbl
    have HW0 : Hid (∀ k, k < ws.length → W0.cell? ⟨b, o + k, none⟩ = some (.string (bs (ws.getD k [])))) := Lib.hid (fun k hk => (HB0.out.cell (p := ⟨b, o + k, none⟩) hb0).trans (hcw k hk))
    clear hcw hbl
    obtain ⟨l1, hl1⟩ : ∃ l1, l1 = ws.getD 1 [] := ⟨_, rfl⟩
    obtain ⟨l2, hl2⟩ : ∃ l2, l2 = ws.getD 2 [] := ⟨_, rfl⟩
    obtain ⟨l3, hl3⟩ : ∃ l3, l3 = ws.getD 3 [] := ⟨_, rfl⟩
    obtain ⟨p1, hp1⟩ : ∃ p1, p1 = bs l1 := ⟨_, rfl⟩
    obtain ⟨p2, hp2⟩ : ∃ p2, p2 = bs l2 := ⟨_, rfl⟩
    obtain ⟨p3, hp3⟩ : ∃ p3, p3 = bs l3 := ⟨_, rfl⟩
    have hw1 : W0.cell? ⟨b, o + 1, none⟩ = some (.string p1) := by rw [hp1, hl1]; exact HW0.out 1 (by omega)
    have HW2 : Hid (W0.cell? ⟨b, o + 2, none⟩ = some (.string p2)) := Lib.hid (by rw [hp2, hl2]; exact HW0.out 2 (by omega))
    have HW3 : Hid (W0.cell? ⟨b, o + 3, none⟩ = some (.string p3)) := Lib.hid (by rw [hp3, hl3]; exact HW0.out 3 (by omega))
    have hs1 : p1.size ≤ 1048576 := by rw [hp1, bs_size, hl1]; exact HS.out _
    have hs3 : p3.size ≤ 1048576 := by rw [hp3, bs_size, hl3]; exact HS.out _
    obtain ⟨x1, hx1⟩ : ∃ x1, x1 = rdV l1 := ⟨_, rfl⟩
    obtain ⟨k1, hk1⟩ : ∃ k1, k1 = rdK l1 := ⟨_, rfl⟩
    obtain ⟨j, hj⟩ : ∃ j, j = ixS (namesOf x.lines) p2 := ⟨_, rfl⟩
    obtain ⟨x3, hx3⟩ : ∃ x3, x3 = tmV l3 := ⟨_, rfl⟩
    obtain ⟨k3, hk3⟩ : ∃ k3, k3 = tmK l3 := ⟨_, rfl⟩
    have HP1 : Hid (k1 = false → pTr x.lines ws = none) := Lib.hid (fun h => by
      unfold pTr
      rw [if_neg (by omega), if_pos (by rw [← hl1, ← hk1]; exact h)])
    have HP2 : Hid (k1 = true → pTr x.lines ws = if j < 0 ∨ k3 = false then none else some ⟨x1, j, x3⟩) := Lib.hid (fun h => by
      rw [pTr_four h4 (by rw [← hl1, ← hk1]; exact h), ← hl1, ← hl2, ← hl3, ← hp2, ← hj, ← hk3, ← hx3, ← hx1])
    have HC1 := implParseInt_any p1 W0 (by omega)
    rw [show p1.data.toList = l1 by rw [hp1, bs_list], ← hx1, ← hk1] at HC1
    have HC1 := Lib.hid HC1
    have HC3 := fun W => parseTimeW_any l3 p3 W hp3 (by omega)
    rw [← hx3, ← hk3] at HC3
    have HC3 := Lib.hid HC3
    have HJ := Lib.hid hj
    have hwl : ws.length = 4 := h4
    rw [hwl]
    clear hl1 hl2 hl3 hp1 hp2 hp3 hx1 hk1 hj hx3 hk3 h4 h4i hwl hz
    have h4i : ((4 : Int) != 4) = false := rfl
    go_enter Tryd.func36, Tryd.ntmps36
    go_upto_region 1 with fail
    rw [← hW0]
    clear hW0
    go_wp2_with fail
    refine HC1.out.mono ?_
    rintro e w1 ⟨rfl, q1, hq1⟩
    have HB1 := Lib.hid (show Below w.heap.size w w1 by rw [hq1]; exact bel_drewN HB0.out q1)
    have HZ1 := Lib.hid (show T0 w1 (w.heap.size + 1) by rw [hq1]; exact ⟨HZ0.out.c0, HZ0.out.c1, HZ0.out.c2, HZ0.out.fr, HZ0.out.lt⟩)
    have HK1 : Hid (w1.cell? ⟨w.heap.size, 0, none⟩ = some (.slice A x.stops.length ca) ∧ w1.cell? ⟨w.heap.size, 1, none⟩ = some (.slice L x.lines.length cl) ∧ w1.cell? ⟨b, o + 2, none⟩ = some (.string p2) ∧ w1.cell? ⟨b, o + 3, none⟩ = some (.string p3)) := Lib.hid (by rw [hq1]; exact ⟨HN0.out.1, HN0.out.2, HW2.out, HW3.out⟩)
    have hz1 : w.heap.size + 1 < w1.heap.size := by rw [hq1]; exact HSZ.out
    clear hq1 hw1
    cases k1
    · have HR := Lib.hid (HP1.out rfl)
      obtain ⟨z0, z1, z2, zf, zl⟩ := HZ1.out
      have zf0 := zf 0
      have zf1 := zf 1
      have zf2 := zf 2
      go_wp2_with fail
      refine bodyPost_ret (v := .tuple #[.agg #[.int .i64 0, .int .i64 0, .int .i64 0], .bool false]) (by simp [results, Tryd.results36, go_sem, z0, z1, z2]) rfl ?_
      refine retTp_zero HR.out ?_
      repeat' (refine Below.setCell ?_ (by simp) _)
      exact HB1.out
    · have HL1 : Hid (LinesIn w1 (Zone.below w.heap.size) L x.lines) := Lib.hid (HL.out.at_below HB1.out)
      have hC0 : ∀ w', Below w1.heap.size w1 w' → w'.cell? ⟨w.heap.size, 0, none⟩ = some (.slice A x.stops.length ca) := fun w' h => (h.cell (p := ⟨w.heap.size, 0, none⟩) (show w.heap.size < w1.heap.size by omega)).trans HK1.out.1
      have hC1 : ∀ w', Below w1.heap.size w1 w' → w'.cell? ⟨w.heap.size, 1, none⟩ = some (.slice L x.lines.length cl) := fun w' h => (h.cell (p := ⟨w.heap.size, 1, none⟩) (show w.heap.size < w1.heap.size by omega)).trans HK1.out.2.1
      have hC2 : ∀ w', Below w1.heap.size w1 w' → w'.cell? ⟨b, o + 2, none⟩ = some (.string p2) := fun w' h => (h.cell (p := ⟨b, o + 2, none⟩) (show b < w1.heap.size by omega)).trans HK1.out.2.2.1
      go_wp2_with fail
      go_region_held3 (fun w' => Below w1.heap.size w1 w') (repeat' first | assumption | exact Nat.le_refl _ | exact Below.refl _ _ | (refine bel_drew ?_) | (refine bel_alloc ?_ _) | (refine bel_set ?_ ?_ _))
        (first
          | (go_at_call 56; refine (lineNames_any x A L ca cl _ ((HL1.out.mono (Zone.below_le (by omega))).call ‹Below w1.heap.size w1 _›) hm).mono ?_; rintro e w5 ⟨g5, rfl, hi5, hb5⟩; have hB5 := bel_call ‹Below w1.heap.size w1 _› hb5; clear hb5)
          | (go_at_call 55; refine (indexN_any g5 x.lines p2 j HJ.out _ _ hi5 hm).mono ?_; rintro e w6 ⟨rfl, hw6⟩; have hB6 := hB5; rw [hw6] at hB6))
      all_goals
        have HB6 := Lib.hid (HB1.out.trans (hB6.mono HB1.out.size))
        have HZ6 := Lib.hid (HZ1.out.below hB6 hz1)
        have HW6 : Hid (w6.cell? ⟨b, o + 3, none⟩ = some (.string p3)) := Lib.hid ((hB6.cell (p := ⟨b, o + 3, none⟩) (show b < w1.heap.size by omega)).trans HK1.out.2.2.2)
        have hc3 := HW6.out
        clear hC0 hC1 hC2 hi5 hB5 hw6 hB6
        (try clear hHeld)
        go_wp2_with fail
        refine (HC3.out w6).mono ?_
        rintro e w7 ⟨rfl, q7, hq7⟩
        have HB7 := Lib.hid (show Below w.heap.size w w7 by rw [hq7]; exact bel_drewN HB6.out q7)
        have HZ7 := Lib.hid (show T0 w7 (w.heap.size + 1) by rw [hq7]; exact ⟨HZ6.out.c0, HZ6.out.c1, HZ6.out.c2, HZ6.out.fr, HZ6.out.lt⟩)
        clear hq7 hc3
        by_cases hneg : j < 0
        · have HR : Hid (pTr x.lines ws = none) := Lib.hid (by rw [HP2.out (by trivial), if_pos (.inl hneg)])
          obtain ⟨z0, z1, z2, zf, zl⟩ := HZ7.out
          have zf0 := zf 0
          have zf1 := zf 1
          have zf2 := zf 2
          go_wp2_with fail
          refine bodyPost_ret (v := .tuple #[.agg #[.int .i64 0, .int .i64 0, .int .i64 0], .bool false]) (by simp [results, Tryd.results36, go_sem, z0, z1, z2]) rfl ?_
          refine retTp_zero HR.out ?_
          repeat' (refine Below.setCell ?_ (by simp) _)
          exact HB7.out
        · cases k3
          · have HR : Hid (pTr x.lines ws = none) := Lib.hid (by rw [HP2.out (by trivial), if_pos (.inr (by trivial))])
            obtain ⟨z0, z1, z2, zf, zl⟩ := HZ7.out
            have zf0 := zf 0
            have zf1 := zf 1
            have zf2 := zf 2
            go_wp2_with fail
            refine bodyPost_ret (v := .tuple #[.agg #[.int .i64 0, .int .i64 0, .int .i64 0], .bool false]) (by simp [results, Tryd.results36, go_sem, z0, z1, z2]) rfl ?_
            refine retTp_zero HR.out ?_
            repeat' (refine Below.setCell ?_ (by simp) _)
            exact HB7.out
          · have HR : Hid (pTr x.lines ws = some ⟨x1, j, x3⟩) := Lib.hid (by rw [HP2.out (by trivial), if_neg]; rintro (h | h); exact hneg h; first | cases h | exact h)
            obtain ⟨z0, z1, z2, zf, zl⟩ := HZ7.out
            have zf0 := zf 0
            have zf1 := zf 1
            have zf2 := zf 2
            go_wp2_with fail
            refine bodyPost_ret (v := .tuple #[.agg #[.int .i64 x1, .int .i64 j, .int .i64 x3], .bool true]) (by simp [results, Tryd.results36, go_sem, z0, z1, z2]) rfl ?_
            refine retTp_some HR.out ?_
            repeat' (refine Below.setCell ?_ (by simp) _)
            exact HB7.out
  · have h4i : ((ws.length : Int) != 4) = true := by simp; omega
    have h4j : ((ws.length : Int) == 4) = false := by simp; omega
    have HR : Hid (pTr x.lines ws = none) := Lib.hid (by unfold pTr; rw [if_pos h4])
    go_enter Tryd.func36, Tryd.ntmps36
    go_upto_region 1 with fail
    rw [← hW0]
    clear hW0
    obtain ⟨z0, z1, z2, zf, zl⟩ := HZ0.out
    have zf0 := zf 0
    have zf1 := zf 1
    have zf2 := zf 2
    go_wp2_with fail
    refine bodyPost_ret (v := .tuple #[.agg #[.int .i64 0, .int .i64 0, .int .i64 0], .bool false]) (by simp [results, Tryd.results36, go_sem, z0, z1, z2]) rfl ?_
    refine retTp_zero HR.out ?_
    repeat' (refine Below.setCell ?_ (by simp) _)
    exact HB0.out
end

/-! ### Regions that append to a field; the split of a text; bounds of what a parse builds. -/
section
open Go.ChangeShapes Go.WideShapes Go.ChangeAt Go.RowKit Go.PlainAid
set_option linter.unusedVariables false
set_option linter.unusedSimpArgs false

theorem Tryd.infoLineP : (Tryd.prog.info? 47).map (fun i => (i.zero, i.size, i.bytes)) = some (some (.agg #[.string { data := #[] }, .slice none 0 0, .slice none 0 0]), 3, 64) := by kernel_rfl
theorem Tryd.infoTripP : (Tryd.prog.info? 54).map (fun i => (i.zero, i.size, i.bytes)) = some (some (.agg #[.int .i64 0, .int .i64 0, .int .i64 0]), 3, 24) := by kernel_rfl
/-- append at a step of a drawn region: which block is the slice's then. -/
theorem step_appsX {α : Type} {e : TypeId} {m : Nat} {enc : α → List Value} {P : Program} {ops : Array Oper} {o : Oper} {a : Act} {K : Act → World → Prop} {Q : Exit → Act → World → Prop} {E : Prop} (hgd : o.guard = none) (s x : Operand) (t : TypeId)
    (ho : o.op = .call { callee := .builtin .append, args := #[s, x], argTypes := #[t, t] }) (bytes : Nat) {z : Value} {i0 : TypeInfo} (ht : P.underlying t = some (.slice e)) (hi : P.info? e = some i0) (hz : i0.zero = some z) (hsize : i0.size = m) (hby : i0.bytes = bytes) (hzs : z.cells.size = m) (hsz : 0 < m)
    (hm : ∀ y, (enc y).length = m) (h1 : ∀ y, ∀ u ∈ enc y, u.oneCell' = true) (hb16 : bytes ≤ 1024)
    (B : Nat) (v : Value) (xs : List α) (y : α) (w : World) (hown : OwnE e m enc w B v xs) (hs : a.eval s = v) (b : Nat) (hx : a.eval x = .slice (some ⟨b, 0, none⟩) 1 1)
    (hc : ∀ j, j < m → w.cell? ⟨b, j, none⟩ = (enc y)[j]?) (hl : xs.length ≤ 16777215) (hB : B ≤ w.heap.size)
    (h : ∀ v' w', OwnE e m enc w' B v' (xs ++ [y]) → Below B w w' → w.grownBy w' v.ownBlock → (v'.ownBlock = v.ownBlock ∨ v'.ownBlock = some w.heap.size) → K (a.put o.dst v') w') :
    if Region.wanted o (yielded ops a.tmps) = true then Oper.wp P o a w K Q else E := by
  have hw : Region.wanted o (yielded ops a.tmps) = true := by simp [Region.wanted, hgd]
  rw [if_pos hw]
  have hc' : ∀ j u, ([y].flatMap enc)[j]? = some u → w.cell? ((⟨b, 0, none⟩ : Addr).add j) = some u := fun j u hj => by
    rw [show (⟨b, 0, none⟩ : Addr).add j = ⟨b, j, none⟩ by unfold Addr.add; split <;> simp_all]
    rw [List.flatMap_cons, List.flatMap_nil, List.append_nil] at hj
    have hlt := (List.getElem?_eq_some_iff.1 hj).1
    rw [hm] at hlt
    rw [hc j hlt, hj]
  have ho1 : ∀ u ∈ [y].flatMap enc, u.oneCell' = true := fun u hu => by
    obtain ⟨y', hy', hu⟩ := List.mem_flatMap.1 hu
    exact h1 y' u hu
  have hby' : (xs.length + 1) * bytes ≤ 140737488355328 := by
    have : (xs.length + 1) * bytes ≤ 16777216 * 1024 := Nat.mul_le_mul (by omega) hb16
    omega
  have hf : ([y].flatMap enc).length = 1 * m := by rw [List.flatMap_cons, List.flatMap_nil, List.append_nil, hm, Nat.one_mul]
  obtain ⟨v', w', hr, h2, h3, h4, h5⟩ := run_append_own_at (P := P) w B t o.type e i0 z m bytes ht hi hz hsize hby hzs hsz v xs.length (xs.flatMap enc) hown ⟨b, 0, none⟩ 1 1 ([y].flatMap enc) hf hc' ho1 (by unfold maxLen; omega) hby' hB
  unfold Oper.wp execOp
  simp only [ho, resolve, invoke, builtin, Sem.run_bind, Sem.run_pure, Result.andThen_ok, List.map_toArray, List.map_cons, List.map_nil, hs, hx, hr]
  refine h v' w' ?_ ((Below.refl B w).grown h3 hB (fun k hk => ((World.ownsRow.lt hown) k hk).1)) h3 h5
  show w'.ownsRow B e m v' (xs ++ [y]).length ((xs ++ [y]).flatMap enc)
  rw [List.length_append, List.flatMap_append]
  exact h2

theorem encI3_cellP (y : I3) : ∀ u ∈ encI3 y, u.oneCell' = true := fun u hu => by
  simp [encI3] at hu
  rcases hu with rfl | rfl | rfl <;> rfl
/-- append of a line, of a trip. -/
theorem wp_appGL {ops : Array Oper} {rest : List Oper} {o : Oper} {a : Act} {Q : Exit → Act → World → Prop} (hgd : o.guard = none) (s x : Operand)
    (ho : o.op = .call { callee := .builtin .append, args := #[s, x], argTypes := #[23, 23] })
    (B : Nat) (v : Value) (xs : List LZ) (y : LZ) (w : World) (hown : OwnE 47 3 encLZ w B v xs) (hs : a.eval s = v) (n : Nat) (hx : a.eval x = .slice (some ⟨n, 0, none⟩) 1 1) (hnw : n = w.heap.size) (hl : xs.length ≤ 16777216) (hB : B ≤ w.heap.size)
    (h : ∀ v' w', OwnE 47 3 encLZ w' B v' (xs ++ [y]) → Below B w w' → (∀ X, X < w.heap.size → v.ownBlock ≠ some X → w'.heap[X]? = w.heap[X]?) → (v'.ownBlock = v.ownBlock ∨ v'.ownBlock = some (w.heap.size + 1)) → w.heap.size ≤ w'.heap.size → wpList Tryd.prog ops Q rest (a.put o.dst v') w') : wpList Tryd.prog ops Q (o :: rest) a (w.alloc (.cells #[.string y.nm, .slice y.sA y.ns y.cs, .slice y.rA y.nr y.cr] 47)) := by
  obtain ⟨i0, hi, hz0, hz1, hz2⟩ := info_parts Tryd.infoLineP
  exact wp_appG (enc := encLZ) hgd s x 23 ho 64 Tryd.underlying23 hi hz0 hz1 hz2 rfl (by omega) (fun _ => rfl) encLZ_cell (by omega) B v xs y _ w rfl hs n hx hnw hown hl hB h
theorem wp_appGT {ops : Array Oper} {rest : List Oper} {o : Oper} {a : Act} {Q : Exit → Act → World → Prop} (hgd : o.guard = none) (s x : Operand)
    (ho : o.op = .call { callee := .builtin .append, args := #[s, x], argTypes := #[31, 31] })
    (B : Nat) (v : Value) (xs : List I3) (y : I3) (w : World) (hown : OwnTp w B v xs) (hs : a.eval s = v) (n : Nat) (hx : a.eval x = .slice (some ⟨n, 0, none⟩) 1 1) (hnw : n = w.heap.size) (hl : xs.length ≤ 16777216) (hB : B ≤ w.heap.size)
    (h : ∀ v' w', OwnTp w' B v' (xs ++ [y]) → Below B w w' → (∀ X, X < w.heap.size → v.ownBlock ≠ some X → w'.heap[X]? = w.heap[X]?) → (v'.ownBlock = v.ownBlock ∨ v'.ownBlock = some (w.heap.size + 1)) → w.heap.size ≤ w'.heap.size → wpList Tryd.prog ops Q rest (a.put o.dst v') w') : wpList Tryd.prog ops Q (o :: rest) a (w.alloc (.cells #[.int .i64 y.a, .int .i64 y.b, .int .i64 y.c] 54)) := by
  obtain ⟨i0, hi, hz0, hz1, hz2⟩ := info_parts Tryd.infoTripP
  exact wp_appG (enc := encI3) hgd s x 31 ho 24 Tryd.underlying31 hi hz0 hz1 hz2 rfl (by omega) (fun _ => rfl) encI3_cellP (by omega) B v xs y _ w rfl hs n hx hnw hown hl hB h
/-- While a region appends to the slice v in cell i of the box g: all else stays. -/
structure SG (w : World) (g i : Nat) (v : Value) (w' : World) : Prop where
  keep : ∀ X, X < w.heap.size → X ≠ g → v.ownBlock ≠ some X → w'.heap[X]? = w.heap[X]?
  cell : ∀ j, j ≠ i → w'.cell? ⟨g, j, none⟩ = w.cell? ⟨g, j, none⟩
  free : ∀ j, w'.frozen? ⟨g, j, none⟩ = w.frozen? ⟨g, j, none⟩
  size : w.heap.size ≤ w'.heap.size
section
variable {w w' w'' : World} {g i : Nat} {v : Value}
theorem SG.refl (w : World) (g i : Nat) (v : Value) : SG w g i v w := ⟨fun _ _ _ _ => rfl, fun _ _ => rfl, fun _ => rfl, Nat.le_refl _⟩
theorem SG.drew (h : SG w g i v w') : SG w g i v w'.drew := ⟨h.keep, h.cell, h.free, h.size⟩
theorem SG.call (h : SG w g i v w') (hb : Below w'.heap.size w' w'') (hg : g < w.heap.size) : SG w g i v w'' :=
  ⟨fun X hX h1 h2 => (hb.block X (Nat.lt_of_lt_of_le hX h.size)).trans (h.keep X hX h1 h2), fun j hj => (hb.cell (p := ⟨g, j, none⟩) (Nat.lt_of_lt_of_le hg h.size)).trans (h.cell j hj), fun j => (hb.frozen (p := ⟨g, j, none⟩) (Nat.lt_of_lt_of_le hg h.size)).trans (h.free j), Nat.le_trans h.size hb.size⟩
theorem SG.alloc (h : SG w g i v w') (hg : g < w.heap.size) (o : Obj) : SG w g i v (w'.alloc o) := h.call ((Below.refl _ _).alloc (Nat.le_refl _) _) hg
theorem SG.set (h : SG w g i v w') (u : Value) : SG w g i v (w'.setCell ⟨g, i, none⟩ u) :=
  ⟨fun X hX h1 h2 => (Below.heap_setCell w' ⟨g, i, none⟩ u X h1).trans (h.keep X hX h1 h2), fun j hj => (World.cell?_setCell_other _ _ _ _ (addr_ne (by omega))).trans (h.cell j hj), fun j => (World.frozen?_setCell _ _ _ _).trans (h.free j), by rw [size_set]; exact h.size⟩
theorem SG.grown (h : SG w g i v w') (hg : w'.grownBy w'' v.ownBlock) (hgs : g < w.heap.size) (hv : v.ownBlock ≠ some g) : SG w g i v w'' :=
  have hb : w''.heap[g]? = w'.heap[g]? := hg.block g (Nat.lt_of_lt_of_le hgs h.size) (fun e => hv e.symm)
  have s := Same.of_blk hb
  ⟨fun X hX h1 h2 => (hg.block X (Nat.lt_of_lt_of_le hX h.size) (fun e => h2 e.symm)).trans (h.keep X hX h1 h2), fun j hj => (s j).1.trans (h.cell j hj), fun j => (s j).2.trans (h.free j), Nat.le_trans h.size hg.size⟩
end

theorem one_cell {w : World} {b : Nat} {s : ByteArray} (h : w.cell? ⟨b, 0, none⟩ = some (.string s)) : ∀ j, j < 1 → w.cell? ⟨b, j, none⟩ = (encS s)[j]? := fun j hj => by
  have : j = 0 := by omega
  subst this
  exact h
theorem one_cellI {w : World} {b : Nat} {s : Int} (h : w.cell? ⟨b, 0, none⟩ = some (.int .i64 s)) : ∀ j, j < 1 → w.cell? ⟨b, j, none⟩ = (encI s)[j]? := fun j hj => by
  have : j = 0 := by omega
  subst this
  exact h
theorem three_cells {w : World} {b : Nat} {t : I3} (h0 : w.cell? ⟨b, 0, none⟩ = some (.int .i64 t.a)) (h1 : w.cell? ⟨b, 1, none⟩ = some (.int .i64 t.b)) (h2 : w.cell? ⟨b, 2, none⟩ = some (.int .i64 t.c)) : ∀ j, j < 3 → w.cell? ⟨b, j, none⟩ = (encI3 t)[j]? := fun j hj => by
  have : j = 0 ∨ j = 1 ∨ j = 2 := by omega
  rcases this with rfl | rfl | rfl
  · exact h0
  · exact h1
  · exact h2

/-! ### The split of a text -/
theorem split_cap (s : ByteArray) (c : UInt8) (m : Int) (w : World) (hs : s.size ≤ 1048576) (hm : w.cell? ⟨0, 0, none⟩ = some (.int .i64 m)) :
    Calls Tryd.prog 34 #[.string s, .string ⟨#[c]⟩] w fun e w' => e = .returned (.slice (some ⟨w.heap.size, 0, none⟩) (spw c s.data.toList).length (spw c s.data.toList).length) ∧ StrsIn w' (Zone.new w.heap.size w'.heap.size) (some ⟨w.heap.size, 0, none⟩) ((spw c s.data.toList).map bs) ∧ Below w.heap.size w w' := by
  refine (Tryd.strings_Split s ⟨#[c]⟩ m w (by omega) hm (Nat.le_refl _)).mono ?_
  rintro e w' ⟨rfl, rfl⟩
  have hl : (splL s c).length = (spw c s.data.toList).length := by rw [splL_eq, List.length_map]
  rw [spl_split c _ s (Nat.le_refl _), ← spl_len, hl, ← splL_eq]
  refine ⟨rfl, fun _ => ⟨w.heap.size, 0, rfl, ⟨Nat.le_refl _, by simp⟩, fun _ j => by simp, fun j hj => ?_⟩, (Below.refl _ _).alloc (Nat.le_refl _) _⟩
  show (w.alloc _).cell? ⟨w.heap.size, 0 + j, none⟩ = some (.string (nthS (splL s c) j))
  rw [Nat.zero_add, World.cell?_alloc_mark, List.getElem?_toArray, List.getElem?_map, List.getElem?_eq_getElem hj]
  unfold nthS
  rw [List.getD_eq_getElem?_getD, List.getElem?_eq_getElem hj]
  rfl
theorem suffix_nl (l : Wd) : Lib.hasSuffix l [10] = true ↔ l.getLast? = some 10 := by
  unfold Lib.hasSuffix
  rw [List.isSuffixOf_iff_suffix]
  constructor
  · rintro ⟨t, rfl⟩
    simp
  · intro h
    rcases List.eq_nil_or_concat l with hq | ⟨a, b, hq⟩
    · rw [hq] at h; simp at h
    · rw [hq] at h
      simp at h
      exact ⟨a, by rw [hq, h]; simp⟩
theorem trim_nl {l : Wd} (h : Lib.hasSuffix l [10] = true) : Lib.trimSuffix l [10] = l.dropLast := by
  unfold Lib.trimSuffix
  rw [if_pos h, List.dropLast_eq_take]
  rfl
theorem spw_le' (c : UInt8) : ∀ (l : Wd), ∀ x ∈ spw c l, x.length ≤ l.length
  | [], x, h => by simp [spw] at h; rw [h]; simp
  | a :: l, x, h => by
    have ih := spw_le' c l
    obtain ⟨p, r, e⟩ : ∃ p r, spw c l = p :: r := by
      cases h2 : spw c l with
      | nil => exact absurd h2 (spw_ne c l)
      | cons p r => exact ⟨p, r, rfl⟩
    unfold spw at h
    rw [e] at ih h
    split at h
    · rcases List.mem_cons.1 h with h | h
      · rw [h]; simp
      · have := ih x h; simp; omega
    · simp only [List.head?_cons, Option.getD_some, List.tail_cons] at h
      rcases List.mem_cons.1 h with h | h
      · have := ih p List.mem_cons_self; rw [h]; simp; omega
      · have := ih x (List.mem_cons_of_mem _ h); simp; omega
theorem spw_getle (c : UInt8) (l : Wd) (k : Nat) : ((spw c l).getD k []).length ≤ l.length := by
  by_cases h : k < (spw c l).length
  · rw [List.getD_eq_getElem?_getD, List.getElem?_eq_getElem h]
    exact spw_le' c l _ (List.getElem_mem h)
  · rw [List.getD_eq_getElem?_getD, List.getElem?_eq_none (by omega)]
    simp
theorem spw_cnt (c : UInt8) : ∀ l : Wd, (spw c l).length ≤ l.length + 1
  | [] => by simp [spw]
  | a :: l => by
    have ih := spw_cnt c l
    unfold spw
    split
    · simp; exact ih
    · have : 0 < (spw c l).length := List.length_pos_iff.2 (spw_ne c l)
      simp; omega
theorem spw_pos (c : UInt8) (l : Wd) : 0 < (spw c l).length := List.length_pos_iff.2 (spw_ne c l)

/-! ### Bounds -/
structure FitX (k : Nat) (x : TTD) : Prop where
  ns : x.net.stops.length ≤ k
  nl : x.net.lines.length ≤ k
  nt : x.trips.length ≤ k
  st : ∀ s ∈ x.net.stops, s.size ≤ 8192
  ln : ∀ y ∈ x.net.lines, y.name.size ≤ 8192 ∧ y.stops.length ≤ 8192 ∧ y.runs.length ≤ 8192
theorem FitX.empty : FitX 0 emT := ⟨Nat.le_refl _, Nat.le_refl _, Nat.le_refl _, fun s h => by simp [emT] at h, fun s h => by simp [emT] at h⟩
theorem FitX.addStop {k : Nat} {x : TTD} {s : ByteArray} (h : FitX k x) (hs : s.size ≤ 8192) : FitX (k + 1) (adStop x s) :=
  ⟨by have := h.ns; simp [adStop]; omega, by have := h.nl; simp [adStop]; omega, by have := h.nt; simp [adStop]; omega, fun y hy => by
    rcases List.mem_append.1 hy with hy | hy
    · exact h.st y hy
    · rw [List.mem_singleton.1 hy]; exact hs, h.ln⟩
theorem FitX.addLine {k : Nat} {x : TTD} {y : LineD} (h : FitX k x) (hy : y.name.size ≤ 8192 ∧ y.stops.length ≤ 8192 ∧ y.runs.length ≤ 8192) : FitX (k + 1) (adLine x y) :=
  ⟨by have := h.ns; simp [adLine]; omega, by have := h.nl; simp [adLine]; omega, by have := h.nt; simp [adLine]; omega, h.st, fun z hz => by
    rcases List.mem_append.1 hz with hz | hz
    · exact h.ln z hz
    · rw [List.mem_singleton.1 hz]; exact hy⟩
theorem FitX.addTrip {k : Nat} {x : TTD} {t : I3} (h : FitX k x) : FitX (k + 1) (adTrip x t) :=
  ⟨by have := h.ns; simp [adTrip]; omega, by have := h.nl; simp [adTrip]; omega, by have := h.nt; simp [adTrip]; omega, h.st, h.ln⟩
theorem FitX.fits {k : Nat} {x : TTD} (h : FitX k x) (hk : k ≤ 1048576) : FitsT x :=
  ⟨⟨by have := h.ns; omega, by have := h.nl; omega, fun j hj => by
    have := h.st (nthS x.net.stops j) (by
      unfold nthS
      rw [List.getD_eq_getElem?_getD, List.getElem?_eq_getElem hj]
      exact List.getElem_mem _)
    omega, fun j hj => by
    have := h.ln (nthL x.net.lines j) (by
      unfold nthL
      rw [List.getD_eq_getElem?_getD, List.getElem?_eq_getElem hj]
      exact List.getElem_mem _)
    omega⟩, by have := h.nt; omega⟩
theorem pLnE_len (ss : List ByteArray) : ∀ (ws : List Wd) (i : Nat) (y z : LineD), pLnE ss i ws y = some z → z.name = y.name ∧ z.stops.length ≤ y.stops.length + ws.length ∧ z.runs.length ≤ y.runs.length + ws.length
  | [], i, y, z, h => by simp [pLnE] at h; rw [h]; simp
  | w :: ws, i, y, z, h => by
    unfold pLnE at h
    split at h
    · split at h
      · obtain ⟨a, b, c⟩ := pLnE_len ss ws _ _ _ h
        simp [lnR] at a b c ⊢
        exact ⟨a, by omega, by omega⟩
      · cases h
    · split at h
      · cases h
      · obtain ⟨a, b, c⟩ := pLnE_len ss ws _ _ _ h
        simp [lnS] at a b c ⊢
        exact ⟨a, by omega, by omega⟩
theorem sLnE_len (ss : List ByteArray) : ∀ (ws : List Wd) (i : Nat) (y z : LineD), sLnE ss i ws y = some z → z.name = y.name ∧ z.stops.length ≤ y.stops.length + ws.length ∧ z.runs.length ≤ y.runs.length + ws.length
  | [], i, y, z, h => by simp [sLnE] at h; rw [h]; simp
  | w :: ws, i, y, z, h => by
    unfold sLnE at h
    split at h
    · obtain ⟨a, b, c⟩ := sLnE_len ss ws _ _ _ h
      simp [lnS] at a b c ⊢
      exact ⟨a, by omega, by omega⟩
    · split at h
      · obtain ⟨a, b, c⟩ := sLnE_len ss ws _ _ _ h
        simp [lnR] at a b c ⊢
        exact ⟨a, by omega, by omega⟩
      · cases h
theorem pLn_len {ss : List ByteArray} {ws : List Wd} {z : LineD} (h : pLn ss ws = some z) (hl : ws.length ≤ 8192) (hs : (ws.getD 1 []).length ≤ 8192) : z.name.size ≤ 8192 ∧ z.stops.length ≤ 8192 ∧ z.runs.length ≤ 8192 := by
  unfold pLn at h
  split at h
  · cases h
  · obtain ⟨a, b, c⟩ := pLnE_len ss _ _ _ _ h
    simp at a b c
    rw [a, bs_size]
    rw [List.getD_eq_getElem?_getD] at hs
    exact ⟨hs, by omega, by omega⟩
/-! ### What both sides hand back -/
def ptV (l : Wd) : TTD := (psT l).getD emT
def ptB (l : Wd) : Bool := (psT l).isSome
def RetPT (l : Wd) (w : World) (e : Ending) (w' : World) : Prop := RetTt (ptV l) (ptB l) w e w'
theorem retPT_none {l : Wd} {w w' : World} (h : psT l = none) (hb : Below w.heap.size w w') : RetPT l w (.returned (.tuple #[.agg #[.slice none 0 0, .slice none 0 0, .slice none 0 0], .bool false])) w' := by
  unfold RetPT ptV ptB
  rw [h]
  exact ⟨none, 0, none, 0, none, 0, rfl, .inl ⟨rfl, rfl, rfl⟩, hb⟩
theorem retPT_some {l : Wd} {x : TTD} {w w' : World} {e : Ending} (h : psT l = some x) (hr : RetTt x true w e w') : RetPT l w e w' := by
  unfold RetPT ptV ptB
  rw [h]
  exact hr
/-- textLines. -/
theorem textLines_no (s : ByteArray) (w : World) (hs : s.size ≤ 1048576) (h : ¬ (s.data.toList.length ≤ 4000 ∧ s.data.toList.getLast? = some 10)) :
    Calls Tryd.prog 33 #[.string s] w fun e w' => e = .returned (.tuple #[.slice none 0 0, .bool false]) ∧ w = w' := by
  have hl := list_of_size s
  have HC := Lib.hid (Tryd.strings_CutSuffix s ⟨#[10]⟩ w (by omega))
  cases hb : Lib.hasSuffix s.data.toList (⟨#[10]⟩ : ByteArray).data.toList
  · rw [hb] at HC
    clear hb h hl
    go_enter Tryd.func33, Tryd.ntmps33
    go_wp2_with fail
    refine HC.out.mono ?_
    rintro e w1 ⟨rfl, rfl⟩
    go_wp2_with fail
    go_ret2
    exact ⟨rfl, rfl⟩
  · have h4 : (4000 : Int) < (s.size : Int) := by
      have : ¬ s.data.toList.length ≤ 4000 := fun h1 => h ⟨h1, (suffix_nl _).1 hb⟩
      omega
    rw [hb] at HC
    clear hb h hl
    go_enter Tryd.func33, Tryd.ntmps33
    go_wp2_with fail
    refine HC.out.mono ?_
    rintro e w1 ⟨rfl, rfl⟩
    go_wp2_with fail
    go_ret2
    exact ⟨rfl, rfl⟩
theorem textLines_yes (s : ByteArray) (m : Int) (w : World) (hs : s.size ≤ 1048576) (h : s.data.toList.length ≤ 4000 ∧ s.data.toList.getLast? = some 10) (hm : w.cell? ⟨0, 0, none⟩ = some (.int .i64 m)) (P : List Wd) (hP : P = spw 10 s.data.toList.dropLast) :
    Calls Tryd.prog 33 #[.string s] w fun e w' => e = .returned (.tuple #[.slice (some ⟨w.heap.size, 0, none⟩) P.length P.length, .bool true]) ∧ StrsIn w' (Zone.new w.heap.size w'.heap.size) (some ⟨w.heap.size, 0, none⟩) (P.map bs) ∧ Below w.heap.size w w' := by
  have hl := list_of_size s
  have hb : Lib.hasSuffix s.data.toList (⟨#[10]⟩ : ByteArray).data.toList = true := (suffix_nl _).2 h.2
  have ht := trim_nl hb
  obtain ⟨q, hq⟩ : ∃ q : ByteArray, q = ⟨(Lib.trimSuffix s.data.toList (⟨#[10]⟩ : ByteArray).data.toList).toArray⟩ := ⟨_, rfl⟩
  have hqe : q.data.toList = s.data.toList.dropLast := by rw [hq, ← ht]
  have hqs : q.size ≤ 1048576 := by
    rw [← list_of_size q, hqe, List.length_dropLast]
    omega
  have hC := Tryd.strings_CutSuffix s ⟨#[10]⟩ w (by omega)
  rw [hb, ← hq] at hC
  have HC := Lib.hid hC
  have h4 : ¬ ((4000 : Int) < (s.size : Int)) := by omega
  have hS := split_cap q 10 m w hqs hm
  rw [hqe, ← hP] at hS
  have HS := Lib.hid hS
  clear hb h hl ht hq hqe hC hS hm hP
  go_enter Tryd.func33, Tryd.ntmps33
  go_wp2_with fail
  refine HC.out.mono ?_
  rintro e w1 ⟨rfl, rfl⟩
  go_wp2_with fail
  refine HS.out.mono ?_
  rintro e w2 ⟨rfl, hi, hb2⟩
  have HI := Lib.hid hi
  have HB := Lib.hid hb2
  clear hi hb2
  go_wp2_with fail
  go_ret2
  exact ⟨rfl, HI.out, HB.out⟩
end
end Go.Proofs.YtpipegdjflniaaaDoor
