/- Timetables of the call's own: copies, the frame of an edit. -/
import Derived.Test.YtambgommeannnaaNwc
import Derived.Test.YtambgommeannnaaTti
import Derived.Test.YtambgommeannnaaTrr
import Derived.Test.YtambgommeannnaaTmr
import Derived.Test.YtambgommeannnaaOwr
import Derived.Test.YtambgommeannnaaShelf
import Derived.Deep.DeepCutAuto
import Derived.Test.YtambgommeannnaaNwb
namespace Go.Proofs.Ytambgommeannnaa

/-! ### Timetables with a trip more, less, or moved: the plain laws. -/
section
open Go.ChangeShapes Go.WideShapes Go.ChangeAt Go.RowKit Go.PlainAid
set_option linter.unusedVariables false
set_option linter.unusedSimpArgs false

/-- The timetable with other trips. -/
def withTr (x : TTD) (ys : List I3) : TTD := ⟨x.net, ys⟩
def zeroT : TTD := ⟨⟨[], []⟩, []⟩
theorem NetX.sz2 {x : NetD} (h : NetX x) : szNet x ≤ 400 := by
  have h1 := upto_bound (fun j => (nthS x.stops j).size) 8 x.stops.length h.sn
  have h2 := upto_bound (fun j => szLn (nthL x.lines j)) 20 x.lines.length (fun k hk => by
    have := h.ln k hk
    show (nthL x.lines k).name.size + (nthL x.lines k).stops.length + (nthL x.lines k).runs.length ≤ 20
    omega)
  have := h.s
  have := h.l
  unfold szNet szSs szLns
  omega
theorem withTr_sz {x : TTD} {ys : List I3} (h : netB x.net = true) (hl : ys.length ≤ 1000) : szTT (withTr x ys) ≤ 1048576 := by
  have := (netX_of h).sz2
  show szNet x.net + ys.length ≤ _
  omega
theorem withTr_fits {x : TTD} {ys : List I3} (h : FitsT x) (hl : ys.length ≤ 1048576) : FitsT (withTr x ys) := ⟨h.net, hl⟩
theorem zeroT_sz : szTT zeroT = 0 := by decide
theorem ttB_net {x : TTD} (h : ttB x = true) : netB x.net = true := (ttB_ok h).1
theorem ttB_trips {x : TTD} (h : ttB x = true) : x.trips.length ≤ 12 := (ttB_ok h).2.1
theorem ttB_split (x : TTD) : ttB x = (netB x.net && tripsB x) := rfl
theorem idI_at {xs : List I3} {id : Int} (h : 0 ≤ idI xs id) : ∃ k, k < xs.length ∧ idI xs id = (k : Int) := by
  unfold idI at h ⊢
  rcases ixN_cases xs.length (idAt xs id) with ⟨k, hk, _, _, e⟩ | ⟨_, e⟩
  · exact ⟨k, hk, e⟩
  · rw [e] at h; omega
/-- One trip at another time. -/
def shL (xs : List I3) (i : Nat) (m : Int) : List I3 := xs.set i ⟨(nth3 xs i).a, (nth3 xs i).b, (nth3 xs i).c + m⟩
theorem shL_len (xs : List I3) (i : Nat) (m : Int) : (shL xs i m).length = xs.length := by simp [shL]
def shX (x : TTD) (id m : Int) : TTD := withTr x (shL x.trips (idI x.trips id).toNat m)
def shB (x : TTD) (id m : Int) : Bool := ttB x && decide (0 ≤ idI x.trips id) && inB m (-1799) 1799 && ttB (shX x id m)
def shR (x : TTD) (id m : Int) : TTD × Bool := if shB x id m = true then (shX x id m, true) else (zeroT, false)
theorem shR_no {x : TTD} {id m : Int} (h : ttB x = false ∨ idI x.trips id < 0 ∨ inB m (-1799) 1799 = false ∨ ttB (shX x id m) = false) : shR x id m = (zeroT, false) := by
  unfold shR
  rw [if_neg]
  unfold shB
  rcases h with h | h | h | h
  · simp [h]
  · have : ¬ 0 ≤ idI x.trips id := by omega
    simp [this]
  · simp [h]
  · simp [h]
theorem shR_yes {x : TTD} {id m : Int} (h1 : ttB x = true) (h2 : 0 ≤ idI x.trips id) (h3 : inB m (-1799) 1799 = true) (h4 : ttB (shX x id m) = true) : shR x id m = (shX x id m, true) := by
  unfold shR shB
  rw [if_pos (by simp [h1, h2, h3, h4])]
theorem shR_sz (x : TTD) (id m : Int) : szTT (shR x id m).1 ≤ 1048576 := by
  unfold shR
  split
  · rename_i h
    unfold shB at h
    simp only [Bool.and_eq_true] at h
    refine withTr_sz (ttB_net h.1.1.1) ?_
    rw [shL_len]
    have := ttB_trips h.1.1.1
    omega
  · rw [zeroT_sz]; omega
/-- One trip less. -/
def rmL (xs : List I3) (i : Nat) : List I3 := xs.take i ++ xs.drop (i + 1)
theorem rmL_len {xs : List I3} {i : Nat} (h : i < xs.length) : (rmL xs i).length = xs.length - 1 := by
  unfold rmL
  rw [List.length_append, List.length_take, List.length_drop]
  omega
def rmX (x : TTD) (id : Int) : TTD := withTr x (rmL x.trips (idI x.trips id).toNat)
def rmB (x : TTD) (id : Int) : Bool := ttB x && decide (0 ≤ idI x.trips id)
def rmR (x : TTD) (id : Int) : TTD × Bool := if rmB x id = true then (rmX x id, true) else (zeroT, false)
theorem rmR_no {x : TTD} {id : Int} (h : ttB x = false ∨ idI x.trips id < 0) : rmR x id = (zeroT, false) := by
  unfold rmR
  rw [if_neg]
  unfold rmB
  rcases h with h | h
  · simp [h]
  · have : ¬ 0 ≤ idI x.trips id := by omega
    simp [this]
theorem rmR_yes {x : TTD} {id : Int} (h1 : ttB x = true) (h2 : 0 ≤ idI x.trips id) : rmR x id = (rmX x id, true) := by
  unfold rmR rmB
  rw [if_pos (by simp [h1, h2])]
theorem rmR_sz (x : TTD) (id : Int) : szTT (rmR x id).1 ≤ 1048576 := by
  unfold rmR
  split
  · rename_i h
    unfold rmB at h
    simp only [Bool.and_eq_true, decide_eq_true_eq] at h
    obtain ⟨k, hk, e⟩ := idI_at h.2
    refine withTr_sz (ttB_net h.1) ?_
    rw [e, Int.toNat_natCast, rmL_len hk]
    have := ttB_trips h.1
    omega
  · rw [zeroT_sz]; omega
/-- The place of a trip: the first one whose id isn't smaller, n if there is none. -/
def plN : List I3 → Int → Nat
  | [], _ => 0
  | t :: ts, a => if t.a < a then plN ts a + 1 else 0
theorem plN_le : ∀ (xs : List I3) (a : Int), plN xs a ≤ xs.length
  | [], _ => Nat.le_refl _
  | t :: ts, a => by
    have := plN_le ts a
    unfold plN
    split
    · simp; omega
    · omega
theorem plN_lt : ∀ (xs : List I3) (a : Int) (j : Nat), j < plN xs a → (nth3 xs j).a < a
  | [], _, j, h => by simp [plN] at h
  | t :: ts, a, j, h => by
    unfold plN at h
    split at h
    · cases j with
      | zero => assumption
      | succ j => exact plN_lt ts a j (by omega)
    · omega
theorem plN_stop : ∀ (xs : List I3) (a : Int), plN xs a < xs.length → ¬ (nth3 xs (plN xs a)).a < a
  | [], _, h => by simp at h
  | t :: ts, a, h => by
    unfold plN at h ⊢
    split
    · rename_i ht
      rw [if_pos ht] at h
      exact plN_stop ts a (by simp at h; omega)
    · assumption
theorem plN_eq {xs : List I3} {a : Int} {k : Nat} (hk : k ≤ xs.length) (h1 : ∀ j, j < k → (nth3 xs j).a < a) (h2 : k < xs.length → ¬ (nth3 xs k).a < a) : plN xs a = k := by
  have hl := plN_le xs a
  rcases Nat.lt_trichotomy (plN xs a) k with h | h | h
  · exact absurd (h1 _ h) (plN_stop xs a (by omega))
  · exact h
  · exact absurd (plN_lt xs a k h) (h2 (by omega))
/-- One trip more. -/
def inL (xs : List I3) (t : I3) : List I3 := xs.take (plN xs t.a) ++ t :: xs.drop (plN xs t.a)
theorem inL_len (xs : List I3) (t : I3) : (inL xs t).length = xs.length + 1 := by
  have := plN_le xs t.a
  unfold inL
  rw [List.length_append, List.length_take, List.length_cons, List.length_drop]
  omega
def adX (x : TTD) (t : I3) : TTD := withTr x (inL x.trips t)
def adB (x : TTD) (t : I3) : Bool := ttB x && ttB (adX x t)
def adR (x : TTD) (t : I3) : TTD × Bool := if adB x t = true then (adX x t, true) else (zeroT, false)
theorem adR_no {x : TTD} {t : I3} (h : ttB x = false ∨ ttB (adX x t) = false) : adR x t = (zeroT, false) := by
  unfold adR
  rw [if_neg]
  unfold adB
  rcases h with h | h <;> simp [h]
theorem adR_yes {x : TTD} {t : I3} (h1 : ttB x = true) (h2 : ttB (adX x t) = true) : adR x t = (adX x t, true) := by
  unfold adR adB
  rw [if_pos (by simp [h1, h2])]
theorem adR_sz (x : TTD) (t : I3) : szTT (adR x t).1 ≤ 1048576 := by
  unfold adR
  split
  · rename_i h
    unfold adB at h
    simp only [Bool.and_eq_true] at h
    refine withTr_sz (ttB_net h.1) ?_
    rw [inL_len]
    have := ttB_trips h.1
    omega
  · rw [zeroT_sz]; omega
end

/-! ### Timetables of the call's own: copies. -/
section
open Go.ChangeShapes Go.WideShapes Go.ChangeAt Go.RowKit Go.PlainAid
set_option linter.unusedVariables false
set_option linter.unusedSimpArgs false

abbrev OwnT (w : World) (B : Nat) (v : Value) (xs : List I3) : Prop := OwnE 94 3 encI3 w B v xs
theorem encI3_cell (y : I3) : ∀ u ∈ encI3 y, u.oneCell' = true := fun u hu => by
  simp [encI3] at hu
  rcases hu with rfl | rfl | rfl <;> rfl
theorem I3sIn.addr {w : World} {Z : Zone} {b o : Nat} {xs : List I3} (h : I3sIn w Z (some ⟨b, o, none⟩) xs) {k : Nat} (hk : k < xs.length) :
    Z.ok b ∧ w.cell? ⟨b, o + k * 3, none⟩ = some (.int .i64 (nth3 xs k).a) ∧ w.cell? ⟨b, o + k * 3 + 1, none⟩ = some (.int .i64 (nth3 xs k).b) ∧ w.cell? ⟨b, o + k * 3 + 2, none⟩ = some (.int .i64 (nth3 xs k).c) := by
  obtain ⟨b', o', e, hb, d⟩ := I3sIn.at h hk
  simp only [Option.some.injEq, Addr.mk.injEq, and_true] at e
  obtain ⟨rfl, rfl⟩ := e
  exact ⟨hb, d⟩
theorem i3_cells {w : World} {Z : Zone} {b o : Nat} {xs : List I3} (h : I3sIn w Z (some ⟨b, o, none⟩) xs) : ∀ j u, (xs.flatMap encI3)[j]? = some u → w.cell? ⟨b, o + j, none⟩ = some u := fun j u hj => by
  have hl : j < xs.length * 3 := by
    have := (List.getElem?_eq_some_iff.1 hj).1
    rw [flat_len (m := 3) (enc := encI3) (fun _ => rfl) xs] at this
    exact this
  obtain ⟨_, d0, d1, d2⟩ := h.addr (k := j / 3) (by omega)
  have hf := flat_get (m := 3) (enc := encI3) (fun _ => rfl) xs (j / 3) (j % 3) (by omega) (by omega)
  rw [show j / 3 * 3 + j % 3 = j by omega] at hf
  rw [hf] at hj
  have hmod : j % 3 = 0 ∨ j % 3 = 1 ∨ j % 3 = 2 := by omega
  rcases hmod with hm | hm | hm
  · rw [hm] at hj
    rw [show o + j = o + j / 3 * 3 by omega, d0]
    exact hj
  · rw [hm] at hj
    rw [show o + j = o + j / 3 * 3 + 1 by omega, d1]
    exact hj
  · rw [hm] at hj
    rw [show o + j = o + j / 3 * 3 + 2 by omega, d2]
    exact hj
theorem cloneT_any (b o c : Nat) (xs : List I3) (w : World) (h : I3sIn w (Zone.below w.heap.size) (some ⟨b, o, none⟩) xs) (hn : xs.length ≤ 1048576) :
    Calls Try.prog 173 #[.slice (some ⟨b, o, none⟩) xs.length c] w fun e w' => ∃ g cap, e = .returned (.slice (some ⟨g, 0, none⟩) xs.length cap) ∧ OwnT w' w.heap.size (.slice (some ⟨g, 0, none⟩) xs.length cap) xs ∧ Below w.heap.size w w' := by
  obtain ⟨i0, hi, hz0, hz1, hz2⟩ := info_parts Try.infoTrip
  have hc := AnyE.slices_Clone Try.laysCloneTrip i0 _ 3 24 hi hz0 hz1 hz2 rfl (by omega) Try.sizeOf94 b o xs.length c (xs.flatMap encI3) w (flat_len (m := 3) (enc := encI3) (fun _ => rfl) xs) (by unfold maxLen; omega) (by omega)
    (i3_cells h)
    (fun u hu => by
      obtain ⟨y, _, hy⟩ := List.mem_flatMap.1 hu
      exact encI3_cell y u hy)
  change Calls Try.prog 173 _ _ _ at hc
  refine hc.mono ?_
  rintro e w' ⟨v, rfl, ho, hne, hb⟩
  have ho' := ho
  obtain ⟨_, hq | ⟨g, cap, cur, hv, _⟩⟩ := ho'
  · exact absurd hq.1 hne
  · subst hv
    exact ⟨g, cap, rfl, ho, hb⟩
section
variable {W0 w' w'' : World} {g n : Nat}
theorem SLn.strs {B : Nat} {A : Option Addr} {xs : List ByteArray} (h : SLn W0 g n w') (hi : StrsIn W0 (Zone.below B) A xs) (hB : B ≤ g) : StrsIn w' (Zone.below w'.heap.size) A xs :=
  (hi.at_below (h.bel.mono hB)).mono (Zone.below_le (Nat.le_trans hB (Nat.le_of_lt h.has.1)))
theorem SLn.lns {B : Nat} {A : Option Addr} {xs : List LineD} (h : SLn W0 g n w') (hi : LinesIn W0 (Zone.below B) A xs) (hB : B ≤ g) : LinesIn w' (Zone.below w'.heap.size) A xs :=
  (hi.at_below (h.bel.mono hB)).mono (Zone.below_le (Nat.le_trans hB (Nat.le_of_lt h.has.1)))
theorem SLn.trs {B : Nat} {A : Option Addr} {xs : List I3} (h : SLn W0 g n w') (hi : I3sIn W0 (Zone.below B) A xs) (hB : B ≤ g) : I3sIn w' (Zone.below w'.heap.size) A xs :=
  (hi.at_below (h.bel.mono hB)).mono (Zone.below_le (Nat.le_trans hB (Nat.le_of_lt h.has.1)))
end
/-- A timetable that a call makes: its own, the trips in a slice of its own. -/
def RetTtS (x : TTD) (w : World) (e : Ending) (w' : World) : Prop :=
  ∃ gs ks g cl p r gt ct, e = .returned (.agg #[.slice (some ⟨gs, 0, none⟩) x.net.stops.length ks, .slice (some ⟨g, 0, none⟩) x.net.lines.length cl, .slice (some ⟨gt, 0, none⟩) x.trips.length ct]) ∧
    NOwn w' w.heap.size w'.heap.size x.net (some ⟨gs, 0, none⟩) (some ⟨g, 0, none⟩) gs g p r ∧ OwnT w' w.heap.size (.slice (some ⟨gt, 0, none⟩) x.trips.length ct) x.trips ∧ gt ≠ gs ∧ Off g x.net.lines.length p r gt ∧ Below w.heap.size w w'
theorem NOwn.offNew {w : World} {lo hi : Nat} {x : NetD} {A L : Option Addr} {s g : Nat} {p r : Nat → Nat} (h : NOwn w lo hi x A L s g p r) {b : Nat} (hb : b < lo ∨ hi ≤ b) : b ≠ s ∧ Off g x.lines.length p r b :=
  ⟨by have := h.s0; have := h.s1; omega, Off.of h.apart hb⟩
/-- Both parts, the network made first. -/
theorem retTtS_a {x : TTD} {w W0 w5 w6 w' : World} {gs ks g cl gt ct : Nat} {p r : Nat → Nat} {lo lo2 : Nat} (h1 : NOwn w5 lo w5.heap.size x.net (some ⟨gs, 0, none⟩) (some ⟨g, 0, none⟩) gs g p r) (h2 : OwnT w6 lo2 (.slice (some ⟨gt, 0, none⟩) x.trips.length ct) x.trips) (h56 : ∀ c, lo ≤ c ∧ c < w5.heap.size → Same w5 w' c) (h6 : OwnT w6 lo2 (.slice (some ⟨gt, 0, none⟩) x.trips.length ct) x.trips → OwnT w' lo2 (.slice (some ⟨gt, 0, none⟩) x.trips.length ct) x.trips) (ho : gt < lo ∨ w5.heap.size ≤ gt) (hlo : w.heap.size ≤ lo) (hlo2 : w.heap.size ≤ lo2) (hz : w5.heap.size ≤ w'.heap.size) (hb : Below w.heap.size w w') :
    RetTtS x w (.returned (.agg #[.slice (some ⟨gs, 0, none⟩) x.net.stops.length ks, .slice (some ⟨g, 0, none⟩) x.net.lines.length cl, .slice (some ⟨gt, 0, none⟩) x.trips.length ct])) w' := by
  have hq := h1.offNew ho
  exact ⟨gs, ks, g, cl, p, r, gt, ct, rfl, (h1.keep h56).wide hlo hz, OwnE.lower (h6 h2) hlo2, hq.1, hq.2, hb⟩
end

/-! ### Copies of timetables. -/
section
open Go.ChangeShapes Go.WideShapes Go.ChangeAt Go.RowKit Go.PlainAid
set_option linter.unusedVariables false
set_option linter.unusedSimpArgs false

/-- A network that a call makes: its own. -/
def RetNetS (x : NetD) (w : World) (e : Ending) (w' : World) : Prop :=
  ∃ gs ks g cl p r, e = .returned (.agg #[.slice (some ⟨gs, 0, none⟩) x.stops.length ks, .slice (some ⟨g, 0, none⟩) x.lines.length cl]) ∧ NOwn w' w.heap.size w'.heap.size x (some ⟨gs, 0, none⟩) (some ⟨g, 0, none⟩) gs g p r ∧ Below w.heap.size w w'
theorem RetNetA.s {x : NetD} {w w' : World} {e : Ending} (h : RetNetA x w e w') : RetNetS x w e w' := by
  obtain ⟨gs, ks, g, p, r, h1, h2, _, h3⟩ := h
  exact ⟨gs, ks, g, _, p, r, h1, h2, h3⟩
theorem RetNetV.s {x : NetD} {w w' : World} {e : Ending} (h : RetNetV x w e w') (h0 : 0 < x.lines.length) : RetNetS x w e w' := by
  obtain ⟨gs, ks, g, cap, ys, h1, h2, h3⟩ := h
  obtain ⟨p, r, hn⟩ := h2.nown h0
  exact ⟨gs, ks, g, cap, p, r, h1, hn, h3⟩
theorem NetX.pos {x : NetD} (h : NetX x) : 0 < x.stops.length ∧ 0 < x.lines.length ∧ ∀ k, k < x.lines.length → 0 < (nthL x.lines k).stops.length ∧ 0 < (nthL x.lines k).runs.length :=
  ⟨by have := h.s; omega, by have := h.l; omega, fun k hk => by have := h.ln k hk; omega⟩
set_option maxRecDepth 100000 in
set_option maxHeartbeats 4000000 in
theorem copyTT_any (x : TTD) (b o ca bl ol cl bt ot ct : Nat) (w : World) (hA : StrsIn w (Zone.below w.heap.size) (some ⟨b, o, none⟩) x.net.stops) (hL : LinesIn w (Zone.below w.heap.size) (some ⟨bl, ol, none⟩) x.net.lines) (hT : I3sIn w (Zone.below w.heap.size) (some ⟨bt, ot, none⟩) x.trips) (hx : FitsT x) (hn : NetX x.net) :
    Calls Try.prog 133 #[.agg #[.slice (some ⟨b, o, none⟩) x.net.stops.length ca, .slice (some ⟨bl, ol, none⟩) x.net.lines.length cl, .slice (some ⟨bt, ot, none⟩) x.trips.length ct]] w (RetTtS x w) := by
  obtain ⟨W0, hW0⟩ : ∃ W0, W0 = ((w.alloc (.cells #[.slice (some ⟨b, o, none⟩) x.net.stops.length ca, .slice (some ⟨bl, ol, none⟩) x.net.lines.length cl, .slice (some ⟨bt, ot, none⟩) x.trips.length ct] 49)).alloc (.cells #[.slice none 0 0, .slice none 0 0, .slice none 0 0] 49)) := ⟨_, rfl⟩
  have hb0 : Below w.heap.size w W0 := by rw [hW0]; go_grown
  have HB0 := Lib.hid hb0
  have HS := Lib.hid (hA.at_below hb0)
  have HL := Lib.hid (hL.at_below hb0)
  have HT := Lib.hid (hT.at_below hb0)
  have hSL : SLn W0 (w.heap.size + 1) 3 W0 := ⟨Below.refl _ _, by rw [hW0]; simp, fun j => by
    rw [hW0]
    refine ⟨fun hj => ?_, by go_simp⟩
    have : j = 0 ∨ j = 1 ∨ j = 2 := by omega
    rcases this with rfl | rfl | rfl <;> go_simp⟩
  have HC : Hid (W0.cell? ⟨w.heap.size, 0, none⟩ = some (.slice (some ⟨b, o, none⟩) x.net.stops.length ca) ∧ W0.cell? ⟨w.heap.size, 1, none⟩ = some (.slice (some ⟨bl, ol, none⟩) x.net.lines.length cl) ∧ W0.cell? ⟨w.heap.size, 2, none⟩ = some (.slice (some ⟨bt, ot, none⟩) x.trips.length ct)) := Lib.hid (by rw [hW0]; exact ⟨by go_simp, by go_simp, by go_simp⟩)
  have hC : ∀ w', SLn W0 (w.heap.size + 1) 3 w' → w'.cell? ⟨w.heap.size, 0, none⟩ = some (.slice (some ⟨b, o, none⟩) x.net.stops.length ca) ∧ w'.cell? ⟨w.heap.size, 1, none⟩ = some (.slice (some ⟨bl, ol, none⟩) x.net.lines.length cl) ∧ w'.cell? ⟨w.heap.size, 2, none⟩ = some (.slice (some ⟨bt, ot, none⟩) x.trips.length ct) :=
    fun w' h => ⟨(h.bel.cell (p := ⟨w.heap.size, 0, none⟩) (Nat.lt_succ_self _)).trans HC.out.1, (h.bel.cell (p := ⟨w.heap.size, 1, none⟩) (Nat.lt_succ_self _)).trans HC.out.2.1, (h.bel.cell (p := ⟨w.heap.size, 2, none⟩) (Nat.lt_succ_self _)).trans HC.out.2.2⟩
  have hTt : ∀ w', SLn W0 (w.heap.size + 1) 3 w' → (w'.cell? ⟨w.heap.size + 1, 0, none⟩ = some (getC w' (w.heap.size + 1) 0) ∧ w'.frozen? ⟨w.heap.size + 1, 0, none⟩ = false) ∧ (w'.cell? ⟨w.heap.size + 1, 1, none⟩ = some (getC w' (w.heap.size + 1) 1) ∧ w'.frozen? ⟨w.heap.size + 1, 1, none⟩ = false) ∧ (w'.cell? ⟨w.heap.size + 1, 2, none⟩ = some (getC w' (w.heap.size + 1) 2) ∧ w'.frozen? ⟨w.heap.size + 1, 2, none⟩ = false) := fun w' h =>
    ⟨h.has.get (by omega), h.has.get (by omega), h.has.get (by omega)⟩
  have hz0 : w.heap.size ≤ W0.heap.size := hb0.size
  have hp := hn.pos
  have HP := Lib.hid hp
  have HF := Lib.hid hx
  have htl : x.trips.length ≤ 1048576 := hx.trips
  clear hA hL hT hb0 hp hn hx
  go_enter Try.func133, Try.ntmps133
  go_wp2_with fail
  rw [← hW0]
  clear hW0
  go_region_held3 (fun w' => SLn W0 (w.heap.size + 1) 3 w') (repeat' first | assumption | exact Nat.le_refl _ | (refine SLn.drew ?_) | (refine SLn.alloc ?_ _) | (refine SLn.set ?_ ?_ _))
    (first
      | (go_at_call 114; go_loud ((with_reducible refine (copyNet_any x.net b o ca bl ol cl _ (SLn.strs ‹SLn W0 (w.heap.size + 1) 3 _› HS.out (Nat.le_succ _)) (SLn.lns ‹SLn W0 (w.heap.size + 1) 3 _› HL.out (Nat.le_succ _)) HF.out.net HP.out.1 HP.out.2.2).mono ?_); intro e w5 hr; obtain ⟨gs, ks, g, cl5, p, r, rfl, hno, hb5⟩ := hr.s; have hS5 := SLn.call ‹SLn W0 (w.heap.size + 1) 3 _› hb5))
      | (go_at_call 173; go_loud ((with_reducible refine (cloneT_any bt ot ct x.trips _ (SLn.trs ‹SLn W0 (w.heap.size + 1) 3 _› HT.out (Nat.le_succ _)) htl).mono ?_); rintro e w6 ⟨gt, kt, rfl, hot, hb6⟩; have hS6 := SLn.call ‹SLn W0 (w.heap.size + 1) 3 _› hb6))
      | fail)
  all_goals
    obtain ⟨⟨t0, f0⟩, ⟨t1, f1⟩, ⟨t2, f2⟩⟩ := hTt _ hS6
    have HBx : Hid (Below w.heap.size w w6) := Lib.hid (HB0.out.trans (hS6.bel.mono (Nat.le_succ _)))
    have hgt := (World.ownsRow.lt hot) gt rfl
    have hz5 : W0.heap.size ≤ w5.heap.size := hb5.size
    have hz6 := hb6.size
    have hW2 : w.heap.size + 1 < W0.heap.size := hSL.has.1
    have HNO := Lib.hid hno
    have HOT := Lib.hid hot
    have HB6 := Lib.hid hb6
    clear hC hTt hS5 hS6 hno hot hb5 hb6 hr hSL
    go_wp2_with fail
    refine bodyPost_ret (v := .agg #[.slice (some ⟨gs, 0, none⟩) x.net.stops.length ks, .slice (some ⟨g, 0, none⟩) x.net.lines.length cl5, .slice (some ⟨gt, 0, none⟩) x.trips.length kt]) (by simp [results, Try.results133, go_sem, t0, t1, t2]) rfl ?_
    refine retTtS_a (W0 := W0) (lo := W0.heap.size) (lo2 := w5.heap.size) HNO.out HOT.out (fun c hc => ?_) (fun h => ?_) (.inr hgt.1) (by omega) (by omega) (by simp only [size_set]; omega) ?_
    · refine (Same.of_below HB6.out hc.2).trans ?_
      exact ((Same.set w6 (p := ⟨w.heap.size + 1, 0, none⟩) (by show c ≠ w.heap.size + 1; omega) _).trans (Same.set _ (p := ⟨w.heap.size + 1, 1, none⟩) (by show c ≠ w.heap.size + 1; omega) _)).trans (Same.set _ (p := ⟨w.heap.size + 1, 2, none⟩) (by show c ≠ w.heap.size + 1; omega) _)
    · repeat' (refine OwnE.offC ?_ (by simp [Value.ownBlock]; omega) _)
      exact h
    · repeat' (refine Below.setCell ?_ (by simp) _)
      exact HBx.out
theorem OwnE.someB {α : Type} {e : TypeId} {m : Nat} {enc : α → List Value} {w : World} {B b : Nat} {v : Value} {xs : List α} (h : OwnE e m enc w B v xs) (hv : v.ownBlock = some b) : ∃ cap, v = .slice (some ⟨b, 0, none⟩) xs.length cap := by
  obtain ⟨_, hq | ⟨g, cap, cur, rfl, _⟩⟩ := h
  · rw [hq.1] at hv; cases hv
  · simp [Value.ownBlock] at hv
    subst hv
    exact ⟨cap, rfl⟩
theorem SLn.call2 {W0 w' w'' : World} {g n B : Nat} (h : SLn W0 g n w') (hb : Below B w' w'') (hB : g < B) (hB2 : B ≤ w'.heap.size) : SLn W0 g n w'' :=
  ⟨h.bel.trans (hb.mono (Nat.le_of_lt hB)), Nat.lt_of_lt_of_le h.has.1 hb.size, fun j => by
    rw [hb.cell (p := ⟨g, j, none⟩) hB, hb.frozen (p := ⟨g, j, none⟩) hB]; exact h.has.2 j⟩
theorem own0a {w : World} {B : Nat} (hb : B ≤ w.heap.size) : OwnT (w.alloc (.cells #[] 94)) B (.slice (some ⟨w.heap.size, 0, none⟩) 0 0) [] := OwnE.empty hb
theorem own0b {w w' : World} {B : Nat} (hb : B ≤ w.heap.size) (hc : Below (w.alloc (.cells #[] 94)).heap.size (w.alloc (.cells #[] 94)) w') : OwnT w' B (.slice (some ⟨w.heap.size, 0, none⟩) 0 0) [] := (own0a hb).call hc
set_option maxRecDepth 100000 in
set_option maxHeartbeats 4000000 in
theorem l5Own_any (x : TTD) (b o ca bl ol cl bt ot ct : Nat) (w : World) (hA : StrsIn w (Zone.below w.heap.size) (some ⟨b, o, none⟩) x.net.stops) (hL : LinesIn w (Zone.below w.heap.size) (some ⟨bl, ol, none⟩) x.net.lines) (hT : I3sIn w (Zone.below w.heap.size) (some ⟨bt, ot, none⟩) x.trips) (hx : FitsT x) (hn : NetX x.net) :
    Calls Try.prog 130 #[.agg #[.slice (some ⟨b, o, none⟩) x.net.stops.length ca, .slice (some ⟨bl, ol, none⟩) x.net.lines.length cl, .slice (some ⟨bt, ot, none⟩) x.trips.length ct]] w (RetTtS x w) := by
  obtain ⟨W0, hW0⟩ : ∃ W0, W0 = ((w.alloc (.cells #[.slice (some ⟨b, o, none⟩) x.net.stops.length ca, .slice (some ⟨bl, ol, none⟩) x.net.lines.length cl, .slice (some ⟨bt, ot, none⟩) x.trips.length ct] 49)).alloc (.cells #[.slice none 0 0, .slice none 0 0, .slice none 0 0] 49)) := ⟨_, rfl⟩
  have hb0 : Below w.heap.size w W0 := by rw [hW0]; go_grown
  have HB0 := Lib.hid hb0
  have HS := Lib.hid (hA.at_below hb0)
  have HL := Lib.hid (hL.at_below hb0)
  have HT := Lib.hid (hT.at_below hb0)
  have hSL : SLn W0 (w.heap.size + 1) 3 W0 := ⟨Below.refl _ _, by rw [hW0]; simp, fun j => by
    rw [hW0]
    refine ⟨fun hj => ?_, by go_simp⟩
    have : j = 0 ∨ j = 1 ∨ j = 2 := by omega
    rcases this with rfl | rfl | rfl <;> go_simp⟩
  have HC : Hid (W0.cell? ⟨w.heap.size, 0, none⟩ = some (.slice (some ⟨b, o, none⟩) x.net.stops.length ca) ∧ W0.cell? ⟨w.heap.size, 1, none⟩ = some (.slice (some ⟨bl, ol, none⟩) x.net.lines.length cl) ∧ W0.cell? ⟨w.heap.size, 2, none⟩ = some (.slice (some ⟨bt, ot, none⟩) x.trips.length ct)) := Lib.hid (by rw [hW0]; exact ⟨by go_simp, by go_simp, by go_simp⟩)
  have hC : ∀ w', SLn W0 (w.heap.size + 1) 3 w' → w'.cell? ⟨w.heap.size, 0, none⟩ = some (.slice (some ⟨b, o, none⟩) x.net.stops.length ca) ∧ w'.cell? ⟨w.heap.size, 1, none⟩ = some (.slice (some ⟨bl, ol, none⟩) x.net.lines.length cl) ∧ w'.cell? ⟨w.heap.size, 2, none⟩ = some (.slice (some ⟨bt, ot, none⟩) x.trips.length ct) :=
    fun w' h => ⟨(h.bel.cell (p := ⟨w.heap.size, 0, none⟩) (Nat.lt_succ_self _)).trans HC.out.1, (h.bel.cell (p := ⟨w.heap.size, 1, none⟩) (Nat.lt_succ_self _)).trans HC.out.2.1, (h.bel.cell (p := ⟨w.heap.size, 2, none⟩) (Nat.lt_succ_self _)).trans HC.out.2.2⟩
  have hTt : ∀ w', SLn W0 (w.heap.size + 1) 3 w' → (w'.cell? ⟨w.heap.size + 1, 0, none⟩ = some (getC w' (w.heap.size + 1) 0) ∧ w'.frozen? ⟨w.heap.size + 1, 0, none⟩ = false) ∧ (w'.cell? ⟨w.heap.size + 1, 1, none⟩ = some (getC w' (w.heap.size + 1) 1) ∧ w'.frozen? ⟨w.heap.size + 1, 1, none⟩ = false) ∧ (w'.cell? ⟨w.heap.size + 1, 2, none⟩ = some (getC w' (w.heap.size + 1) 2) ∧ w'.frozen? ⟨w.heap.size + 1, 2, none⟩ = false) := fun w' h =>
    ⟨h.has.get (by omega), h.has.get (by omega), h.has.get (by omega)⟩
  have hz0 : w.heap.size ≤ W0.heap.size := hb0.size
  have hp := hn.pos
  have HP := Lib.hid hp
  have HF := Lib.hid hx
  have htl : x.trips.length ≤ 1048576 := hx.trips
  clear hA hL hT hb0 hp hn hx
  obtain ⟨i0, hii, iz0, iz1, iz2⟩ := info_parts Try.infoTrip
  have hE0 : OwnT (W0.alloc (.cells #[] 94)).drew W0.heap.size (.slice (some ⟨W0.heap.size, 0, none⟩) 0 0) [] := own0a (w := W0) (Nat.le_refl _)
  go_enter Try.func130, Try.ntmps130
  go_wp2_with fail
  rw [← hW0]
  clear hW0
  go_region_held3 (fun w' => SLn W0 (w.heap.size + 1) 3 w') (repeat' first | assumption | exact Nat.le_refl _ | (refine SLn.drew ?_) | (refine SLn.alloc ?_ _) | (refine SLn.set ?_ ?_ _))
    (first
      | (go_at_call 106; go_loud ((with_reducible refine (l2Own_any x.net b o ca bl ol cl _ (SLn.strs ‹SLn W0 (w.heap.size + 1) 3 _› HS.out (Nat.le_succ _)) (SLn.lns ‹SLn W0 (w.heap.size + 1) 3 _› HL.out (Nat.le_succ _)) HF.out.net HP.out.1 HP.out.2.1 HP.out.2.2).mono ?_); intro e w5 hr; obtain ⟨gs, ks, g, cl5, p, r, rfl, hno, hb5⟩ := hr.s HP.out.2.1; have hS5 := SLn.call ‹SLn W0 (w.heap.size + 1) 3 _› hb5; (try have hz5 : W0.heap.size ≤ w5.heap.size := hb5.size); (try have hE5 : OwnT w5 W0.heap.size (.slice (some ⟨W0.heap.size, 0, none⟩) 0 0) [] := OwnE.call (w := (W0.alloc (.cells #[] 94)).drew) (own0a (w := W0) (Nat.le_refl _)) hb5); (try have hot5 := OwnE.call hot hb5)))
      | (refine step_appsG (enc := encI3) (by rfl) _ _ 47 (by rfl) 24 Try.underlying47 hii iz0 iz1 iz2 rfl (by omega) (fun _ => rfl) encI3_cell (by omega) W0.heap.size _ [] x.trips _ (by first | with_reducible exact hE0 | with_reducible exact hE5 | with_reducible exact own0a hz5) (by rfl) bt ot ct _ (by rfl) rfl (i3_cells (SLn.trs ‹SLn W0 (w.heap.size + 1) 3 _› HT.out (Nat.le_succ _))) (by simp; omega) (by first | (simp; done) | (have := hb5.size; simp at this ⊢; omega)) ?_; intro v6 w6 hot hb6 hg6 hat6; obtain ⟨gt, hgt⟩ : ∃ gt, v6.ownBlock = some gt := (by rcases hat6 with q | q <;> exact ⟨_, q⟩); rw [List.nil_append] at hot; obtain ⟨kt, rfl⟩ := OwnE.someB hot hgt; have hS6 := SLn.call2 ‹SLn W0 (w.heap.size + 1) 3 _› hb6 hSL.has.1 (by first | (simp; done) | (have := hb5.size; simp at this ⊢; omega)))
      | fail)
  all_goals
    have hz5 : W0.heap.size ≤ w5.heap.size := hS5.bel.size
    have hX : ∃ lo, W0.heap.size ≤ lo ∧ NOwn w5 lo w5.heap.size x.net (some ⟨gs, 0, none⟩) (some ⟨g, 0, none⟩) gs g p r ∧ (∀ c, lo ≤ c ∧ c < w5.heap.size → Same w5 w6 c) ∧ (gt < lo ∨ w5.heap.size ≤ gt) ∧ w5.heap.size ≤ w6.heap.size := by
      first
        | exact ⟨W0.heap.size, Nat.le_refl _, hno, fun c hc => (Same.of_below ((Below.refl _ _).alloc (Nat.le_refl _) _) hc.2).trans (Same.of_blk (hg6.block c (by simp; omega) (by simp [Value.ownBlock]; omega))), by rcases hat6 with q | q <;> (simp [Value.ownBlock] at q; omega), by have := hg6.size; simp at this; omega⟩
        | exact ⟨W0.heap.size + 1, Nat.le_succ _, hno.wide (by simp) (Nat.le_refl _), fun c hc => Same.of_blk (hg6.block c hc.2 (by simp [Value.ownBlock]; omega)), by rcases hat6 with q | q <;> (simp [Value.ownBlock] at q; omega), hg6.size⟩
    obtain ⟨lo, hlo, hno2, h56, hgt2, hz6⟩ := hX
    obtain ⟨⟨t0, f0⟩, ⟨t1, f1⟩, ⟨t2, f2⟩⟩ := hTt _ hS6
    have HBx : Hid (Below w.heap.size w w6) := Lib.hid (HB0.out.trans (hS6.bel.mono (Nat.le_succ _)))
    have hgt := (World.ownsRow.lt hot) gt rfl
    have hW2 : w.heap.size + 1 < W0.heap.size := hSL.has.1
    have HNO := Lib.hid hno2
    have HOT := Lib.hid hot
    have H56 := Lib.hid h56
    clear hC hTt hS5 hS6 hno hno2 hot hb5 hb6 hr hSL hg6 hat6 h56 hE0
    try clear hE5
    go_wp2_with fail
    refine bodyPost_ret (v := .agg #[.slice (some ⟨gs, 0, none⟩) x.net.stops.length ks, .slice (some ⟨g, 0, none⟩) x.net.lines.length cl5, .slice (some ⟨gt, 0, none⟩) x.trips.length kt]) (by simp [results, Try.results130, go_sem, t0, t1, t2]) rfl ?_
    refine retTtS_a (W0 := W0) (lo := lo) (lo2 := W0.heap.size) HNO.out HOT.out (fun c hc => ?_) (fun h => ?_) hgt2 (by omega) (by omega) (by simp only [size_set]; omega) ?_
    · refine (H56.out c hc).trans ?_
      exact ((Same.set w6 (p := ⟨w.heap.size + 1, 0, none⟩) (by show c ≠ w.heap.size + 1; omega) _).trans (Same.set _ (p := ⟨w.heap.size + 1, 1, none⟩) (by show c ≠ w.heap.size + 1; omega) _)).trans (Same.set _ (p := ⟨w.heap.size + 1, 2, none⟩) (by show c ≠ w.heap.size + 1; omega) _)
    · repeat' (refine OwnE.offC ?_ (by simp [Value.ownBlock]; omega) _)
      exact h
    · repeat' (refine Below.setCell ?_ (by simp) _)
      exact HBx.out
end

/-! ### Timetables: the frame of a function that edits one. -/
section
open Go.ChangeShapes Go.WideShapes Go.ChangeAt Go.RowKit Go.PlainAid
set_option linter.unusedVariables false
set_option linter.unusedSimpArgs false

/-- A timetable that came in, and the result's block, still empty. -/
structure TW (w wr : World) (x : TTD) (A : Option Addr) (ca : Nat) (L : Option Addr) (cl : Nat) (T : Option Addr) (ct : Nat) : Prop where
  box : TtBox w wr w.heap.size x A ca L cl T ct
  res : wr.cell? ⟨w.heap.size + 1, 0, none⟩ = some (.slice none 0 0) ∧ wr.cell? ⟨w.heap.size + 1, 1, none⟩ = some (.slice none 0 0) ∧ wr.cell? ⟨w.heap.size + 1, 2, none⟩ = some (.slice none 0 0)
  free : ∀ j, wr.frozen? ⟨w.heap.size + 1, j, none⟩ = false
  lt : w.heap.size + 1 < wr.heap.size
section
variable {w wr w' : World} {B : Nat} {x : TTD} {A L T : Option Addr} {ca cl ct : Nat}
theorem TW.kept (h : TW w wr x A ca L cl T ct) (hb : Below B wr w') (hB : w.heap.size + 1 < B) : TW w w' x A ca L cl T ct :=
  have s : Same wr w' (w.heap.size + 1) := Same.of_below hb hB
  ⟨h.box.callB hb (by omega), ⟨(s 0).1.trans h.res.1, (s 1).1.trans h.res.2.1, (s 2).1.trans h.res.2.2⟩, fun j => (s j).2.trans (h.free j), Nat.lt_of_lt_of_le h.lt hb.size⟩
theorem TW.call (h : TW w wr x A ca L cl T ct) (hb : Below wr.heap.size wr w') : TW w w' x A ca L cl T ct := h.kept hb h.lt
theorem TW.alloc (h : TW w wr x A ca L cl T ct) (o : Obj) : TW w (wr.alloc o) x A ca L cl T ct := h.call ((Below.refl _ _).alloc (Nat.le_refl _) _)
theorem TW.start (hA : StrsIn w (Zone.below w.heap.size) A x.net.stops) (hL : LinesIn w (Zone.below w.heap.size) L x.net.lines) (hT : I3sIn w (Zone.below w.heap.size) T x.trips) :
    TW w ((w.alloc (.cells #[.slice A x.net.stops.length ca, .slice L x.net.lines.length cl, .slice T x.trips.length ct] 49)).alloc (.cells #[.slice none 0 0, .slice none 0 0, .slice none 0 0] 49)) x A ca L cl T ct :=
  ⟨(TtBox.box hA hL hT).call ((Below.refl _ _).alloc (Nat.le_refl _) _), ⟨by go_simp, by go_simp, by go_simp⟩, fun j => by go_simp, by simp⟩
theorem TW.bel (h : TW w wr x A ca L cl T ct) : Below w.heap.size w wr := h.box.bel
end
theorem retTt_zero {w w' : World} (hb : Below w.heap.size w w') : RetTt zeroT false w (.returned (.tuple #[.agg #[.slice none 0 0, .slice none 0 0, .slice none 0 0], .bool false])) w' :=
  ⟨none, 0, none, 0, none, 0, rfl, .inl ⟨rfl, rfl, rfl⟩, hb⟩
theorem retTt_eq {x y : TTD} {b c : Bool} {w w' : World} {e : Ending} (h : (x, b) = (y, c)) (hr : RetTt y c w e w') : RetTt x b w e w' := by
  cases h; exact hr

set_option maxRecDepth 100000 in
set_option maxHeartbeats 2000000 in
theorem checked_no (x : TTD) (A L T : Option Addr) (ca cl ct : Nat) (w : World) (hA : StrsIn w (Zone.below w.heap.size) A x.net.stops) (hL : LinesIn w (Zone.below w.heap.size) L x.net.lines) (hT : I3sIn w (Zone.below w.heap.size) T x.trips) (hx : FitsT x) (hb : ttB x = false) :
    Calls Try.prog 134 #[.agg #[.slice A x.net.stops.length ca, .slice L x.net.lines.length cl, .slice T x.trips.length ct]] w fun e w' => e = .returned (.tuple #[.agg #[.slice none 0 0, .slice none 0 0, .slice none 0 0], .bool false]) ∧ Below w.heap.size w w' := by
  obtain ⟨W0, hW0⟩ : ∃ W0, W0 = ((w.alloc (.cells #[.slice A x.net.stops.length ca, .slice L x.net.lines.length cl, .slice T x.trips.length ct] 49)).alloc (.cells #[.slice none 0 0, .slice none 0 0, .slice none 0 0] 49)) := ⟨_, rfl⟩
  have H0 : Hid (TW w W0 x A ca L cl T ct) := Lib.hid (by rw [hW0]; exact TW.start hA hL hT)
  clear hA hL hT
  go_enter Try.func134, Try.ntmps134
  go_upto_region 1 with fail
  rw [← hW0]
  clear hW0
  obtain ⟨c0, c1, c2⟩ := H0.out.box.cells
  have HG := Lib.hid (isValidTimetable_any x A L T ca cl ct W0 H0.out.box.stops H0.out.box.lines H0.out.box.trips hx)
  go_wp2_with fail
  refine HG.out.mono ?_
  rintro e w1 ⟨rfl, hb1⟩
  rw [hb]
  have H1 := Lib.hid (H0.out.call hb1)
  obtain ⟨t0, t1, t2⟩ := H1.out.res
  have f0 := H1.out.free 0
  have f1 := H1.out.free 1
  have f2 := H1.out.free 2
  clear hb1 hb c0 c1 c2
  go_wp2_with fail
  refine bodyPost_ret (v := .tuple #[.agg #[.slice none 0 0, .slice none 0 0, .slice none 0 0], .bool false]) (by simp [results, Try.results134, go_sem, t0, t1, t2]) rfl ?_
  refine ⟨rfl, ?_⟩
  repeat' (refine Below.setCell ?_ (by simp) _)
  exact H1.out.bel
set_option maxRecDepth 100000 in
set_option maxHeartbeats 2000000 in
theorem checked_yes (x : TTD) (A L T : Option Addr) (ca cl ct : Nat) (w : World) (hA : StrsIn w (Zone.below w.heap.size) A x.net.stops) (hL : LinesIn w (Zone.below w.heap.size) L x.net.lines) (hT : I3sIn w (Zone.below w.heap.size) T x.trips) (hx : FitsT x) (hb : ttB x = true) :
    Calls Try.prog 134 #[.agg #[.slice A x.net.stops.length ca, .slice L x.net.lines.length cl, .slice T x.trips.length ct]] w fun e w' => e = .returned (.tuple #[.agg #[.slice A x.net.stops.length ca, .slice L x.net.lines.length cl, .slice T x.trips.length ct], .bool true]) ∧ Below w.heap.size w w' := by
  obtain ⟨W0, hW0⟩ : ∃ W0, W0 = ((w.alloc (.cells #[.slice A x.net.stops.length ca, .slice L x.net.lines.length cl, .slice T x.trips.length ct] 49)).alloc (.cells #[.slice none 0 0, .slice none 0 0, .slice none 0 0] 49)) := ⟨_, rfl⟩
  have H0 : Hid (TW w W0 x A ca L cl T ct) := Lib.hid (by rw [hW0]; exact TW.start hA hL hT)
  clear hA hL hT
  go_enter Try.func134, Try.ntmps134
  go_upto_region 1 with fail
  rw [← hW0]
  clear hW0
  obtain ⟨c0, c1, c2⟩ := H0.out.box.cells
  have HG := Lib.hid (isValidTimetable_any x A L T ca cl ct W0 H0.out.box.stops H0.out.box.lines H0.out.box.trips hx)
  go_wp2_with fail
  refine HG.out.mono ?_
  rintro e w1 ⟨rfl, hb1⟩
  rw [hb]
  have H1 := Lib.hid (H0.out.call hb1)
  obtain ⟨t0, t1, t2⟩ := H1.out.res
  obtain ⟨d0, d1, d2⟩ := H1.out.box.cells
  have f0 := H1.out.free 0
  have f1 := H1.out.free 1
  have f2 := H1.out.free 2
  clear hb1 hb c0 c1 c2
  go_wp2_with fail
  refine bodyPost_ret (v := .tuple #[.agg #[.slice A x.net.stops.length ca, .slice L x.net.lines.length cl, .slice T x.trips.length ct], .bool true]) (by simp [results, Try.results134, go_sem, t0, t1, t2]) rfl ?_
  refine ⟨rfl, ?_⟩
  repeat' (refine Below.setCell ?_ (by simp) _)
  exact H1.out.bel

/-- A timetable of the call's own: networks and trips in blocks apart. -/
structure TtN (w : World) (lo : Nat) (x : TTD) (gs g gt : Nat) (p r : Nat → Nat) : Prop where
  net : NOwn w lo w.heap.size x.net (some ⟨gs, 0, none⟩) (some ⟨g, 0, none⟩) gs g p r
  trip : I3sIn w (Zone.one gt) (some ⟨gt, 0, none⟩) x.trips
  gt0 : lo ≤ gt
  gt1 : gt < w.heap.size
  ne : gt ≠ gs
  off : Off g x.net.lines.length p r gt
section
variable {w w' : World} {lo B gs g gt : Nat} {x : TTD} {p r : Nat → Nat}
theorem TtN.keep (h : TtN w lo x gs g gt p r) (hs : ∀ c, lo ≤ c ∧ c < w.heap.size → Same w w' c) (hz : w.heap.size ≤ w'.heap.size) : TtN w' lo x gs g gt p r :=
  ⟨(h.net.keep hs).wide (Nat.le_refl _) hz, h.trip.keep fun c hc => by rw [Zone.one_ok hc]; exact hs gt ⟨h.gt0, h.gt1⟩, h.gt0, Nat.lt_of_lt_of_le h.gt1 hz, h.ne, h.off⟩
theorem TtN.call (h : TtN w lo x gs g gt p r) (hb : Below w.heap.size w w') : TtN w' lo x gs g gt p r := h.keep (fun c hc => Same.of_below hb hc.2) hb.size
theorem TtN.alloc (h : TtN w lo x gs g gt p r) (o : Obj) : TtN (w.alloc o) lo x gs g gt p r := h.call ((Below.refl _ _).alloc (Nat.le_refl _) _)
theorem TtN.set (h : TtN w lo x gs g gt p r) {q : Addr} (hq : q.block < lo) (u : Value) : TtN (w.setCell q u) lo x gs g gt p r :=
  h.keep (fun c hc => Same.set w (by omega) u) (by rw [size_set]; exact Nat.le_refl _)
/-- A store into a block that is none of them. -/
theorem TtN.setOff (h : TtN w lo x gs g gt p r) {q : Addr} (h1 : q.block ≠ gs) (h2 : Off g x.net.lines.length p r q.block) (h3 : q.block ≠ gt) (u : Value) : TtN (w.setCell q u) lo x gs g gt p r :=
  have hs : ∀ c, c ≠ q.block → Same w (w.setCell q u) c := fun c hc => Same.set w hc u
  have hn := h.net
  ⟨⟨hn.at0, hn.stops.keep fun c hc => by rw [Zone.one_ok hc]; exact hs _ (Ne.symm h1), hn.lines.keepP (hs _ (Ne.symm h2.1)) (fun j hj => hs _ (Ne.symm (h2.2 j hj).1)) (fun j hj => hs _ (Ne.symm (h2.2 j hj).2)), by rw [size_set]; exact hn.apart, hn.s0, by rw [size_set]; exact hn.s1, hn.off⟩,
    h.trip.keep fun c hc => by rw [Zone.one_ok hc]; exact hs _ (Ne.symm h3), h.gt0, by rw [size_set]; exact h.gt1, h.ne, h.off⟩
/-- Other trips in the trips' block. -/
theorem TtN.trips {ys : List I3} (h : TtN w lo x gs g gt p r) (hs : ∀ c, c ≠ gt → c < w.heap.size → Same w w' c) (hz : w.heap.size ≤ w'.heap.size) (ht : I3sIn w' (Zone.one gt) (some ⟨gt, 0, none⟩) ys) : TtN w' lo (withTr x ys) gs g gt p r :=
  have hn := h.net
  have ha := hn.apart
  ⟨⟨hn.at0, hn.stops.keep fun c hc => by rw [Zone.one_ok hc]; exact hs _ (Ne.symm h.ne) hn.s1, hn.lines.keepP (hs _ (Ne.symm h.off.1) ha.g1) (fun j hj => hs _ (Ne.symm (h.off.2 j hj).1) (ha.p0 j hj).2.1) (fun j hj => hs _ (Ne.symm (h.off.2 j hj).2) (ha.r0 j hj).2.1), ha.wide (Nat.le_refl _) hz, hn.s0, Nat.lt_of_lt_of_le hn.s1 hz, hn.off⟩,
    ht, h.gt0, Nat.lt_of_lt_of_le h.gt1 hz, h.ne, h.off⟩
/-- Other trips in another block. -/
theorem TtN.tripsAt {ys : List I3} {gt' : Nat} (h : TtN w lo x gs g gt p r) (hs : ∀ c, c ≠ gt → c < w.heap.size → Same w w' c) (hz : w.heap.size ≤ w'.heap.size) (hg : gt' = gt ∨ w.heap.size ≤ gt') (hg2 : gt' < w'.heap.size) (ht : I3sIn w' (Zone.one gt') (some ⟨gt', 0, none⟩) ys) : TtN w' lo (withTr x ys) gs g gt' p r := by
  rcases hg with rfl | hg
  · exact h.trips hs hz ht
  · have hn := h.net
    have ha := hn.apart
    have h0 := h.gt0
    have h1 := h.gt1
    refine ⟨⟨hn.at0, hn.stops.keep fun c hc => by rw [Zone.one_ok hc]; exact hs _ (Ne.symm h.ne) hn.s1, hn.lines.keepP (hs _ (Ne.symm h.off.1) ha.g1) (fun j hj => hs _ (Ne.symm (h.off.2 j hj).1) (ha.p0 j hj).2.1) (fun j hj => hs _ (Ne.symm (h.off.2 j hj).2) (ha.r0 j hj).2.1), ha.wide (Nat.le_refl _) hz, hn.s0, Nat.lt_of_lt_of_le hn.s1 hz, hn.off⟩, ht, by omega, hg2, ?_, ?_⟩
    · have := hn.s1; omega
    · exact Off.of ha (.inr hg)
theorem TtN.lower {lo' : Nat} (h : TtN w lo x gs g gt p r) (hl : lo' ≤ lo) : TtN w lo' x gs g gt p r :=
  ⟨h.net.wide hl (Nat.le_refl _), h.trip, Nat.le_trans hl h.gt0, h.gt1, h.ne, h.off⟩
theorem TtN.stopsIn (h : TtN w lo x gs g gt p r) : StrsIn w (Zone.below w.heap.size) (some ⟨gs, 0, none⟩) x.net.stops := h.net.stopsIn.to_below (Nat.le_refl _)
theorem TtN.linesIn (h : TtN w lo x gs g gt p r) : LinesIn w (Zone.below w.heap.size) (some ⟨g, 0, none⟩) x.net.lines := h.net.linesIn.to_below (Nat.le_refl _)
theorem TtN.tripsIn (h : TtN w lo x gs g gt p r) : I3sIn w (Zone.below w.heap.size) (some ⟨gt, 0, none⟩) x.trips := h.trip.to_below (by have := h.gt1; omega)
theorem TtN.tto (h : TtN w lo x gs g gt p r) : TtO w lo w.heap.size x (some ⟨gs, 0, none⟩) (some ⟨g, 0, none⟩) (some ⟨gt, 0, none⟩) :=
  .inr ⟨gs, g, p, r, h.net, .inr ⟨gt, ⟨h.gt0, h.gt1⟩, h.ne, h.off, h.trip⟩⟩
end
end
end Go.Proofs.Ytambgommeannnaa
