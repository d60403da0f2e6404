/- Rides: the program's queue. -/
import Derived.Test.YtbneigkgdjcnjaaRdb
import Derived.ArgAppend
namespace Go.Proofs.Ytbneigkgdjcnjaa
open Go.ChangeShapes Go.WideShapes Go.ChangeAt Go.RowKit Go.PlainAid
set_option linter.unusedVariables false

/-! ### A queue of the call's own: a slice that is cut at its head and appended to -/
/-- From place o of block g on lie n numbers, the queue q; c cells are there. -/
structure QueI (w : World) (B X g o n c : Nat) (q : List Nat) : Prop where
  num : n = q.length
  lo : B ≤ g
  lt : g < w.heap.size
  ne : g ≠ X
  cap : n ≤ c
  fit : c ≤ 9223372036854775807
  there : ∀ j, j < c → (w.cell? ⟨g, o + j, none⟩).isSome = true
  free : ∀ j, w.frozen? ⟨g, j, none⟩ = false
  at' : ∀ j, j < n → w.cell? ⟨g, o + j, none⟩ = some (.int .i64 (q.getD j 0 : Nat))
section
variable {w w' : World} {B X g o n c : Nat} {q : List Nat}
theorem QueI.same (h : QueI w B X g o n c q) (hs : Same w w' g) (hz : w.heap.size ≤ w'.heap.size) : QueI w' B X g o n c q :=
  ⟨h.num, h.lo, Nat.lt_of_lt_of_le h.lt hz, h.ne, h.cap, h.fit, fun j hj => by rw [(hs _).1]; exact h.there j hj, fun j => (hs j).2.trans (h.free j), fun j hj => (hs _).1.trans (h.at' j hj)⟩
theorem QueI.call (h : QueI w B X g o n c q) (hb : Below w.heap.size w w') : QueI w' B X g o n c q := h.same (Same.of_below hb h.lt) hb.size
theorem QueI.setX (h : QueI w B X g o n c q) (i : Nat) (u : Value) : QueI (w.setCell ⟨X, i, none⟩ u) B X g o n c q := h.same (Same.set w h.ne u) (by simp)
theorem QueI.start {T : TypeId} (f : Nat) (hB : B ≤ w.heap.size) (hX : X ≠ w.heap.size) : QueI (w.alloc (.cells #[.int .i64 (f : Int)] T)) B X w.heap.size 0 1 1 [f] where
  num := rfl
  lo := hB
  lt := by simp
  ne := Ne.symm hX
  cap := Nat.le_refl _
  fit := by omega
  there := fun j hj => by obtain rfl : j = 0 := by omega
                          go_simp
  free := fun j => by
    have e1 : (w.alloc (.cells #[.int .i64 (f : Int)] T)).heap[w.heap.size]? = some (.cells #[.int .i64 (f : Int)] T) := heap_alloc_new w _
    unfold World.frozen?
    simp only [e1]
    simp
  at' := fun j hj => by obtain rfl : j = 0 := by omega
                        go_simp
theorem QueI.head {h : Nat} {l : List Nat} (k : QueI w B X g o n c (h :: l)) : 0 < n ∧ n = l.length + 1 ∧ w.cell? ⟨g, o, none⟩ = some (.int .i64 (h : Int)) := by
  have h1 := k.num
  simp only [List.length_cons] at h1
  exact ⟨by omega, h1, k.at' 0 (by omega)⟩
/-- The head is cut off. -/
theorem QueI.tail {h : Nat} {l : List Nat} (k : QueI w B X g o n c (h :: l)) (hc : c ≠ 1) : QueI w B X g (o + 1) (n - 1) (c - 1) l := by
  have h1 := k.num
  simp only [List.length_cons] at h1
  have h2 := k.cap
  have h3 := k.fit
  refine ⟨by omega, k.lo, k.lt, k.ne, by omega, by omega, fun j hj => ?_, k.free, fun j hj => ?_⟩
  · rw [show o + 1 + j = o + (j + 1) by omega]; exact k.there (j + 1) (by omega)
  · rw [show o + 1 + j = o + (j + 1) by omega]; exact k.at' (j + 1) (by omega)
theorem QueI.tail1 {h : Nat} {l : List Nat} (k : QueI w B X g o n c (h :: l)) (hc : c = 1) : l = [] ∧ n = 1 ∧ QueI w B X g o 0 0 l := by
  have h1 := k.num
  simp only [List.length_cons] at h1
  have h2 := k.cap
  obtain rfl : l = [] := List.eq_nil_of_length_eq_zero (by omega)
  refine ⟨rfl, by simpa using h1, rfl, k.lo, k.lt, k.ne, Nat.le_refl _, by omega, fun j hj => by omega, k.free, fun j hj => by omega⟩
end
theorem ArrI.same {w w' : World} {g n : Nat} {F : Nat → Int} (h : ArrI w g n F) (hs : Same w w' g) (hz : w.heap.size ≤ w'.heap.size) : ArrI w' g n F :=
  ⟨fun j hj => (hs j).1.trans (h.cells j hj), fun j => (hs j).2.trans (h.free j), Nat.lt_of_lt_of_le h.lt hz⟩
theorem getD_map_int (q : List Nat) (j : Nat) (u : Value) (h : (q.map fun x : Nat => Value.int .i64 (x : Int))[j]? = some u) : j < q.length ∧ u = .int .i64 (q.getD j 0 : Nat) := by
  rw [List.getElem?_map] at h
  cases hq : q[j]? with
  | none => rw [hq] at h; simp at h
  | some x =>
    rw [hq] at h
    simp at h
    refine ⟨by have := (List.getElem?_eq_some_iff.1 hq).1; exact this, ?_⟩
    rw [List.getD_eq_getElem?_getD, hq, ← h]
    rfl
/-- append(queue, y). -/
theorem wp_appQ {ops : Array Oper} {rest : List Oper} {o : Oper} {a : Act} {Q : Exit → Act → World → Prop} (hgd : o.guard = none) (s x : Operand)
    (ho : o.op = .call { callee := .builtin .append, args := #[s, x], argTypes := #[39, 39] })
    (B X g b n c : Nat) (q : List Nat) (y : Nat) (w : World) (hq : QueI w B X g b n c q) (hs : a.eval s = .slice (some ⟨g, b, none⟩) n c) (m : Nat) (hx : a.eval x = .slice (some ⟨m, 0, none⟩) 1 1) (hnw : m = w.heap.size) (hl : n ≤ 16777216) (hB : B ≤ w.heap.size) (hX : X < w.heap.size)
    (h : ∀ g' b' c' w', QueI w' B X g' b' (n + 1) c' (q ++ [y]) → Below B w w' → Same w w' X → w.heap.size ≤ w'.heap.size → wpList Try.prog ops Q rest (a.put o.dst (.slice (some ⟨g', b', none⟩) (n + 1) c')) w') :
    wpList Try.prog ops Q (o :: rest) a (w.alloc (.cells #[.int .i64 (y : Int)] 3)) := by
  subst hnw
  have hn := hq.num
  have hfit := hq.fit
  have hca := hq.cap
  obtain ⟨i0, hi, hz0, hz1, hz2⟩ := info_parts Try.infoI
  have hq1 : QueI (w.alloc (.cells #[.int .i64 (y : Int)] 3)) B X g b n c q := hq.call ((Below.refl _ _).alloc (Nat.le_refl _) _)
  have hb1 : Below B w (w.alloc (.cells #[.int .i64 (y : Int)] 3)) := (Below.refl _ _).alloc hB _
  have hX1 : Same w (w.alloc (.cells #[.int .i64 (y : Int)] 3)) X := Same.of_below ((Below.refl _ _).alloc (Nat.le_refl _) _) hX
  have hlast : (q ++ [y]).getD n 0 = y := by rw [hn, List.getD_eq_getElem?_getD, List.getElem?_append_right (Nat.le_refl _)]; simp
  have hfirst : ∀ j, j < n → (q ++ [y]).getD j 0 = q.getD j 0 := fun j hj => by
    rw [List.getD_eq_getElem?_getD, List.getElem?_append_left (by omega), List.getD_eq_getElem?_getD]
  refine wpList_append_arg (w.alloc (.cells #[.int .i64 (y : Int)] 3)) hgd s x 39 ho 3 i0 _ 1 8 Try.underlying39 hi hz0 hz1 hz2 rfl (by omega) g b n c (q.map fun x : Nat => Value.int .i64 (x : Int)) hs (by rw [List.length_map]; omega) (fun j u hj => ?_) ⟨w.heap.size, 0, none⟩ 1 1 [.int .i64 (y : Int)] hx rfl (fun j u hj => ?_) (fun u hu => ?_) (fun hr j hj => ?_) (by unfold maxLen; omega) (by omega) (fun hr => ?_) (fun hr v' w' hown hgr => ?_)
  · obtain ⟨h1, rfl⟩ := getD_map_int q j u hj
    exact hq1.at' j (by omega)
  · cases j with
    | zero =>
      simp at hj
      subst hj
      rw [show (⟨w.heap.size, 0, none⟩ : Addr).add 0 = ⟨w.heap.size, 0, none⟩ by unfold Addr.add; split <;> simp_all]
      go_simp
    | succ j => simp at hj
  · simp at hu; subst hu; rfl
  · obtain rfl : j = 0 := by simpa using hj
    rw [Nat.mul_one, Nat.add_zero]
    exact ⟨hq1.there n (by omega), hq1.free _⟩
  · rw [Nat.mul_one]
    show wpList _ _ _ _ _ ((w.alloc (.cells #[.int .i64 (y : Int)] 3)).setCell ⟨g, b + n, none⟩ (.int .i64 (y : Int)))
    have hsome := hq1.there n (by omega)
    obtain ⟨v, hv⟩ := Option.isSome_iff_exists.1 hsome
    refine h g b c _ ⟨by rw [List.length_append]; simp; omega, hq1.lo, by have := hq1.lt; simpa [World.setCell] using this, hq1.ne, by omega, hfit, fun j hj => ?_, fun j => by rw [World.frozen?_setCell]; exact hq1.free j, fun j hj => ?_⟩ (hb1.setCell hq.lo _) (hX1.trans (Same.set _ (Ne.symm hq.ne) _)) (by simp)
    · by_cases e : j = n
      · subst e; rw [World.cell?_setCell_same _ _ _ hv]; rfl
      · rw [World.cell?_setCell_other _ _ _ _ (addr_ne (by omega))]; exact hq1.there j hj
    · by_cases e : j = n
      · subst e; rw [World.cell?_setCell_same _ _ _ hv, hlast]
      · rw [World.cell?_setCell_other _ _ _ _ (addr_ne (by omega)), hfirst j (by omega)]; exact hq1.at' j (by omega)
  · obtain ⟨h1, h2⟩ := hown
    rcases h2 with ⟨_, h2⟩ | ⟨g', cap, cur, rfl, hg', hh, hle, hcm, r1, r2⟩
    · omega
    · have hlt : g' < w'.heap.size := (Array.getElem?_eq_some_iff.1 hh).1
      have hz := hgr.size
      simp at hz hg'
      unfold maxLen at hcm
      have hcell : ∀ j, w'.cell? ⟨g', 0 + j, none⟩ = cur[j]? := fun j => by
        rw [Nat.zero_add]
        unfold World.cell?
        simp only [hh]
        rfl
      have hbel : Below (w.alloc (.cells #[.int .i64 (y : Int)] 3)).heap.size (w.alloc (.cells #[.int .i64 (y : Int)] 3)) w' := (Below.refl _ _).grown hgr (Nat.le_refl _) (fun k hk => by cases hk)
      refine h g' 0 cap w' ⟨by rw [List.length_append]; simp; omega, by omega, hlt, by omega, hle, by omega, fun j hj => ?_, fun j => ?_, fun j hj => ?_⟩ (hb1.trans (hbel.mono (by simp; omega))) (hX1.trans (Same.of_below hbel (by simp; omega))) (by omega)
      · rw [hcell, Array.getElem?_eq_getElem (by omega)]; rfl
      · unfold World.frozen?
        simp only [hh]
        simp
      · rw [hcell]
        have e : cur[j]? = (q.map (fun x : Nat => Value.int .i64 (x : Int)) ++ [.int .i64 (y : Int)])[j]? := by
          rw [← r2, ← Array.getElem?_toList, List.getElem?_take_of_lt (by omega)]
        rw [e]
        by_cases e2 : j = n
        · subst e2
          rw [hlast, List.getElem?_append_right (by simp; omega)]
          simp [hn]
        · rw [hfirst j (by omega), List.getElem?_append_left (by simp; omega), List.getElem?_map, List.getD_eq_getElem?_getD]
          rw [List.getElem?_eq_getElem (by omega)]
          rfl

/-! ### Plain facts -/
/-- What the first k lines lead to from a stop. -/
def rideI (x : NetD) (s k t : Nat) : Prop := ∃ i, i < k ∧ ∃ b, b < (nthL x.lines i).stops.length ∧ ∃ a, a < b ∧ nth (nthL x.lines i).stops a = (s : Int) ∧ nth (nthL x.lines i).stops b = (t : Int)
theorem rideI_zero {x : NetD} {s t : Nat} (h : rideI x s 0 t) : False := by obtain ⟨i, hi, _⟩ := h; omega
theorem rideI_skip {x : NetD} {s k t : Nat} (hno : ∀ a, a < (nthL x.lines k).stops.length → eqAt (nthL x.lines k).stops (s : Int) a = false) (h : rideI x s (k + 1) t) : rideI x s k t := by
  obtain ⟨i, hi, b, hb, a, ha, h1, h2⟩ := h
  by_cases e : i = k
  · subst e
    have := hno a (by omega)
    unfold eqAt at this
    rw [h1] at this
    simp at this
  · exact ⟨i, by omega, b, hb, a, ha, h1, h2⟩
theorem rideI_step {x : NetD} {s k t ix : Nat} (hix : ∀ a, a < ix → eqAt (nthL x.lines k).stops (s : Int) a = false) (h : rideI x s (k + 1) t) : rideI x s k t ∨ ∃ b, ix < b ∧ b < (nthL x.lines k).stops.length ∧ nth (nthL x.lines k).stops b = (t : Int) := by
  obtain ⟨i, hi, b, hb, a, ha, h1, h2⟩ := h
  by_cases e : i = k
  · subst e
    refine .inr ⟨b, ?_, hb, h2⟩
    by_cases g : a < ix
    · have := hix a g
      unfold eqAt at this
      rw [h1] at this
      simp at this
    · omega
  · exact .inl ⟨i, by omega, b, hb, a, ha, h1, h2⟩
/-- The same within line k: the places behind ix, p of them. -/
def rideP (x : NetD) (s k ix p t : Nat) : Prop := rideI x s k t ∨ ∃ b, ix < b ∧ b < ix + 1 + p ∧ nth (nthL x.lines k).stops b = (t : Int)
theorem rideP_zero {x : NetD} {s k ix t : Nat} (h : rideP x s k ix 0 t) : rideI x s k t := by
  rcases h with h | ⟨b, h1, h2, _⟩
  · exact h
  · omega
theorem rideP_succ {x : NetD} {s k ix p t u : Nat} (hv : nth (nthL x.lines k).stops (ix + 1 + p) = (u : Int)) (h : rideP x s k ix (p + 1) t) : rideP x s k ix p t ∨ t = u := by
  rcases h with h | ⟨b, h1, h2, h3⟩
  · exact .inl (.inl h)
  · by_cases e : b = ix + 1 + p
    · subst e
      rw [hv] at h3
      exact .inr (by omega)
    · exact .inl (.inr ⟨b, h1, by omega, h3⟩)
/-- The numbers and the queue, in memory; h: the queue's head. -/
def RdSt (x : NetD) (f B : Nat) (w0 : World) (gk : Nat) (D : Nat → Prop) (h : Nat) (v : Value) (w : World) : Prop :=
  ∃ g o n c l ob, v = .slice (some ⟨g, o, none⟩) n c ∧ QueI w B B g o n c (h :: l) ∧ ArrI w B x.stops.length (nth ob) ∧ BfsAt x f ob (h :: l) D ∧ l.length + 1 + x.stops.length = gk + setN ob ∧ Below B w0 w
/-- The same at the head of a round. -/
def RdHd (x : NetD) (f B : Nat) (w0 : World) (gk : Nat) (v : Value) (w : World) : Prop :=
  ∃ g o n c q ob, v = .slice (some ⟨g, o, none⟩) n c ∧ QueI w B B g o n c q ∧ ArrI w B x.stops.length (nth ob) ∧ BfsAt x f ob q (fun _ => False) ∧ q.length + x.stops.length = gk + setN ob ∧ gk ≤ x.stops.length ∧ Below B w0 w
theorem RdSt.skip {x : NetD} {f B : Nat} {w0 : World} {gk : Nat} {D D' : Nat → Prop} {h : Nat} {v : Value} {w : World} (s : RdSt x f B w0 gk D h v w) (hD : ∀ t, D' t → D t) : RdSt x f B w0 gk D' h v w := by
  obtain ⟨g, o, n, c, l, ob, e, h1, h2, h3, h4, h5⟩ := s
  exact ⟨g, o, n, c, l, ob, e, h1, h2, h3.skip (fun t _ ht => .inl (hD t ht)), h4, h5⟩
theorem RdSt.alloc {x : NetD} {f B : Nat} {w0 : World} {gk : Nat} {D : Nat → Prop} {h : Nat} {v : Value} {w : World} (s : RdSt x f B w0 gk D h v w) (u : Obj) : RdSt x f B w0 gk D h v (w.alloc u) := by
  obtain ⟨g, o, n, c, l, ob, e, h1, h2, h3, h4, h5⟩ := s
  have hb : Below w.heap.size w (w.alloc u) := (Below.refl _ _).alloc (Nat.le_refl _) _
  exact ⟨g, o, n, c, l, ob, e, h1.call hb, h2.call hb, h3, h4, h5.alloc (by have := h2.lt; omega) _⟩

set_option maxRecDepth 100000 in
set_option maxHeartbeats 4000000 in
theorem rides_any (x : NetD) (A L : Option Addr) (ca cl : Nat) (f : Nat) (w : World) (hA : StrsIn w (Zone.below w.heap.size) A x.stops) (hL : LinesIn w (Zone.below w.heap.size) L x.lines) (hx : Fits x) (hg : netB x = true) (hf : f < x.stops.length) :
    Calls Try.prog 80 #[.agg #[.slice A x.stops.length ca, .slice L x.lines.length cl], .int .i64 (f : Int)] w fun e w' => e = .returned (.slice (some ⟨w.heap.size + 1, 0, none⟩) x.stops.length x.stops.length) ∧ ArrI w' (w.heap.size + 1) x.stops.length (ridF x f x.stops.length) ∧ Below w.heap.size w w' := by
  have HOk := Lib.hid (netB_ok hg)
  have hln : 0 < x.lines.length ∧ x.lines.length ≤ 5 := by have := inB_iff.1 HOk.out.lines; omega
  have hsn : 2 ≤ x.stops.length ∧ x.stops.length ≤ 8 := by have := inB_iff.1 HOk.out.stops; omega
  have HL : Hid (∀ k, k < x.lines.length → LineOk x.stops.length (nthL x.lines k)) := Lib.hid (fun k hk => of_decide_eq_true (HOk.out.each k hk))
  obtain ⟨bl, ol, rfl, hbl, hls⟩ := hL.stopsAt hln.1
  have HLS := Lib.hid hls
  have H0 : Hid (NetBox w (w.alloc (.cells #[.slice A x.stops.length ca, .slice (some ⟨bl, ol, none⟩) x.lines.length cl] 31)) w.heap.size x A ca (some ⟨bl, ol, none⟩) cl) := Lib.hid (NetBox.box hA hL)
  obtain ⟨i0, hi, hz0, hz1, hz2⟩ := info_parts Try.infoI
  have hmk := fun W => run_make_n (P := Try.prog) 39 3 i0 _ Try.underlying39 hi hz0 x.stops.length 1 8 hz1 hz2 (by omega) (by omega) W
  obtain ⟨hl1, hl2⟩ := hln
  obtain ⟨hs1, hs2⟩ := hsn
  clear hA hL hls hg
  go_enter Try.func80, Try.ntmps80
  go_wp2_with fail
  have HB0 : Hid (Below w.heap.size w (w.alloc (.cells #[.slice A x.stops.length ca, .slice (some ⟨bl, ol, none⟩) x.lines.length cl] 31))) := Lib.hid (by go_grown)
  have HZ : Hid ((w.alloc (.cells #[.slice A x.stops.length ca, .slice (some ⟨bl, ol, none⟩) x.lines.length cl] 31)).heap.size = w.heap.size + 1) := Lib.hid (by simp)
  have HRH : Hid (∀ w', Below (w.heap.size + 1) (w.alloc (.cells #[.slice A x.stops.length ca, .slice (some ⟨bl, ol, none⟩) x.lines.length cl] 31)) w' → w'.cell? ⟨w.heap.size, 0, none⟩ = some (.slice A x.stops.length ca) ∧ w'.cell? ⟨w.heap.size, 1, none⟩ = some (.slice (some ⟨bl, ol, none⟩) x.lines.length cl)) := Lib.hid (fun w' hb => by
    have h := (H0.out.callB hb (Nat.lt_succ_self _)).cells
    exact h)
  go_loopw [20] (fun i wr => ∃ k : Nat, k ≤ x.stops.length ∧ i = .int .i64 k ∧ ArrI wr (w.heap.size + 1) x.stops.length (fun j => if j < k then -1 else 0) ∧ Below (w.heap.size + 1) (w.alloc (.cells #[.slice A x.stops.length ca, .slice (some ⟨bl, ol, none⟩) x.lines.length cl] 31)) wr) (fun i _ => x.stops.length - (intOf i).toNat)
  case atStart => exact ⟨0, Nat.zero_le _, rfl, by (have h := (ArrI.made (w.alloc (.cells #[.slice A x.stops.length ca, .slice (some ⟨bl, ol, none⟩) x.lines.length cl] 31)) x.stops.length 3); rw [HZ.out] at h; simpa using h), by have := (Below.refl (w.heap.size + 1) (w.alloc (.cells #[.slice A x.stops.length ca, .slice (some ⟨bl, ol, none⟩) x.lines.length cl] 31))).alloc (by simp) (.cells (madeCells #[.int .i64 0] x.stops.length) 3); simpa using this⟩
  case round =>
    obtain ⟨k, hk, rfl, ha, hb⟩ := hrel
    have HB := Lib.hid hb
    by_cases hlt : k < x.stops.length
    · have hct := ha.cells k hlt
      have hfr := ha.free k
      have HS := Lib.hid ((ha.set hlt (-1)).congr (G := fun j => if j < k + 1 then -1 else 0) (fun j hj => by by_cases e : j = k; (subst e; simp); (simp only [if_neg e]; by_cases e2 : j < k; (rw [if_pos e2, if_pos (by omega)]); (rw [if_neg e2, if_neg (by omega)]))))
      have hik : (k : Int) < (x.stops.length : Int) := by omega
      clear ha hb
      go_wp2_with fail
      go_roundw
      case rel => exact ⟨k + 1, by omega, by go_num, HS.out, HB.out.setCell (by simp) _⟩
      case measure => simp [intOf]; omega
    · obtain rfl : k = x.stops.length := by omega
      have hct := ha.cells f hf
      rw [if_pos hf] at hct
      have hfr := ha.free f
      have HS : Hid (ArrI (wr.setCell ⟨w.heap.size + 1, f, none⟩ (.int .i64 0)) (w.heap.size + 1) x.stops.length (nth ((List.replicate x.stops.length (-1)).set f 0))) := Lib.hid ((ha.set hf 0).congr (fun j hj => by
        by_cases e : j = f
        · subst e; simp only [if_true]; rw [nth_set_same _ (by simpa using hj)]
        · simp only [if_neg e]; rw [if_pos hj, nth_set_ne _ (fun g => e g.symm)]; unfold nth; rw [List.getD_eq_getElem?_getD, List.getElem?_replicate, if_pos hj]; rfl))
      have hff : (f : Int) < (x.stops.length : Int) := by omega
      have HB1 := Lib.hid (HB.out.setCell (p := ⟨w.heap.size + 1, f, none⟩) (Nat.le_refl _) (.int .i64 0))
      have hlt0 : w.heap.size + 1 < wr.heap.size := ha.lt
      clear ha hb
      go_wp2_with fail
      have hlt1 : w.heap.size + 1 < (wr.setCell ⟨w.heap.size + 1, f, none⟩ (.int .i64 0)).heap.size := by simpa [World.setCell] using hlt0
      generalize (w.alloc (.cells #[.slice A x.stops.length ca, .slice (some ⟨bl, ol, none⟩) x.lines.length cl] 31)) = w0 at *
      have HZ1' : Hid ((wr.setCell ⟨w.heap.size + 1, f, none⟩ (.int .i64 0)).heap.size = wr.heap.size) := Lib.hid (by simp)
      generalize hw1 : wr.setCell ⟨w.heap.size + 1, f, none⟩ (.int .i64 0) = w1 at *
      have HST : Hid (RdHd x f (w.heap.size + 1) w0 x.stops.length (.slice (some ⟨w1.heap.size, 0, none⟩) 1 1) (w1.alloc (.cells #[.int .i64 (f : Int)] 3))) := Lib.hid
        ⟨_, _, _, _, [f], _, rfl, QueI.start f (by omega) (by omega), HS.out.call ((Below.refl _ _).alloc (Nat.le_refl _) _), BfsAt.start rfl hf, by
          have e : setN ((List.replicate x.stops.length (-1)).set f 0) = setN (List.replicate x.stops.length (-1)) + 1 := setN_set (by simpa using hf) (by unfold nth; rw [List.getD_eq_getElem?_getD, List.getElem?_replicate, if_pos hf]; decide) (by omega)
          have e2 : ∀ n, setN (List.replicate n (-1)) = 0 := fun n => by induction n with
            | zero => rfl
            | succ n ih => rw [List.replicate_succ]; simp only [setN]; rw [ih, if_neg (by omega)]
          rw [e, e2]; simp; omega, Nat.le_refl _, HB1.out.alloc (by omega) _⟩
      clear hct hfr hw1 HS HB1 HB hlt0
      go_loopg [7] (x.stops.length) (fun gk v wr => RdHd x f (w.heap.size + 1) w0 gk v wr)
      case atStart => exact (by have h := HST.out; rw [HZ1'.out] at h; exact h)
      case round =>
        obtain ⟨g, o, n, c, q, ob, rfl, hq, hao, hbf, hct, hgk, hb⟩ := hrel
        have HB2 := Lib.hid hb
        have HQ := Lib.hid hq
        have HAO := Lib.hid hao
        have HBF := Lib.hid hbf
        have HCT := Lib.hid hct
        have hset := setN_le ob
        have hol := hbf.len
        have hgx : w.heap.size + 1 < wr.heap.size := hao.lt
        have HOL := Lib.hid hol
        obtain ⟨c0, c1⟩ := HRH.out _ hb
        cases q with
        | nil =>
          have hn0 : n = 0 := hq.num
          subst hn0
          have HE := Lib.hid hbf.fin
          clear hq hao hbf hct hol
          go_wp2_with fail
          go_ret
          exact ⟨rfl, HAO.out.congr (fun j hj => by rw [HE.out, nth_ridI hj]), HB0.out.trans (HB2.out.mono (by omega))⟩
        | cons h l =>
          obtain ⟨hn0, hnl, hhd⟩ := hq.head
          have hni : (0 : Int) < (n : Int) := by omega
          obtain ⟨hhs, hh0⟩ := hbf.inq h (by simp)
          have hnle : n ≤ 8 := by simp only [List.length_cons] at hct; omega
          have HST3 : Hid (RdSt x f (w.heap.size + 1) w0 gk (rideI x h 0) h (.slice (some ⟨g, o, none⟩) n c) wr) := Lib.hid ⟨g, o, n, c, l, ob, rfl, hq, hao, hbf.skip (fun t _ ht => (rideI_zero ht).elim), by simpa using hct, hb⟩
          clear hq hao hbf hct hol hset hnl
          go_wp2_with fail
          obtain ⟨wo, rfl⟩ : ∃ wo : World, wo = wr := ⟨_, rfl⟩
          clear hhd c0 c1
          go_loopw [7, 43] (fun v i wi => ∃ k : Nat, k ≤ x.lines.length ∧ i = .int .i64 k ∧ RdSt x f (w.heap.size + 1) w0 gk (rideI x h k) h v wi) (fun _ i _ => x.lines.length - (intOf i).toNat)
          case atStart => exact ⟨0, Nat.zero_le _, rfl, HST3.out⟩
          case round =>
            obtain ⟨k, hk, rfl, hst⟩ := hrel
            have HST4 := Lib.hid hst
            obtain ⟨g1, o1, n1, c1, l1, ob1, rfl, hq1, hao1, hbf1, hct1, hb1⟩ := hst
            by_cases hlt : k < x.lines.length
            · have hik : (k : Int) < (x.lines.length : Int) := by omega
              obtain ⟨q1, q2, q3⟩ := HL.out k hlt
              unfold LineHd at q1
              obtain ⟨hp1, hp2, _⟩ := q1
              obtain ⟨bs, os, cs, R, cr, hbs, hcs1, hcs2, hd0, hd1, hd2, hcc⟩ := HLS.out k hlt (by omega)
              have HSO := Lib.hid q2
              have HK : Hid (∀ w', Below (w.heap.size + 1) w0 w' → w'.cell? ⟨bl, ol + k * 3, none⟩ = some (.string (nthL x.lines k).name) ∧ w'.cell? ⟨bl, ol + k * 3 + 1, none⟩ = some (.slice (some ⟨bs, os, none⟩) (nthL x.lines k).stops.length cs) ∧ w'.cell? ⟨bl, ol + k * 3 + 2, none⟩ = some (.slice R (nthL x.lines k).runs.length cr) ∧ ∀ j, j < (nthL x.lines k).stops.length → w'.cell? ⟨bs, os + j, none⟩ = some (.int .i64 (nth (nthL x.lines k).stops j))) := Lib.hid (fun w' hb =>
                ⟨((hb.cell (p := ⟨bl, _, none⟩) (by show bl < _; omega)).trans (HB0.out.cell (p := ⟨bl, _, none⟩) hbl)).trans hd0, ((hb.cell (p := ⟨bl, _, none⟩) (by show bl < _; omega)).trans (HB0.out.cell (p := ⟨bl, _, none⟩) hbl)).trans hd1, ((hb.cell (p := ⟨bl, _, none⟩) (by show bl < _; omega)).trans (HB0.out.cell (p := ⟨bl, _, none⟩) hbl)).trans hd2, fun j hj => ((hb.cell (p := ⟨bs, _, none⟩) (by show bs < _; omega)).trans (HB0.out.cell (p := ⟨bs, _, none⟩) hbs)).trans (hcc j hj)⟩)
              obtain ⟨e0, e1, e2, e3⟩ := HK.out _ hb1
              have hzr : w.heap.size + 1 < wr.heap.size := hao1.lt
              have HI : Hid (IntsIn (wr.alloc (.cells #[.string (nthL x.lines k).name, .slice (some ⟨bs, os, none⟩) (nthL x.lines k).stops.length cs, .slice R (nthL x.lines k).runs.length cr] 94)) (Zone.below (wr.alloc (.cells #[.string (nthL x.lines k).name, .slice (some ⟨bs, os, none⟩) (nthL x.lines k).stops.length cs, .slice R (nthL x.lines k).runs.length cr] 94)).heap.size) (some ⟨bs, os, none⟩) (nthL x.lines k).stops) :=
                Lib.hid (Sl.call (w := wr) (fun _ => ⟨bs, os, rfl, by show bs < _; omega, fun h => h.elim, e3⟩) (by go_grown))
              have HS5 := Lib.hid (HST4.out.alloc (.cells #[.string (nthL x.lines k).name, .slice (some ⟨bs, os, none⟩) (nthL x.lines k).stops.length cs, .slice R (nthL x.lines k).runs.length cr] 94))
              clear hd0 hd1 hd2 hcc q2 q3 hq1 hao1 hbf1 hct1 hb1 e3
              rcases ixN_cases (nthL x.lines k).stops.length (eqAt (nthL x.lines k).stops (h : Int)) with ⟨ix, hix, hxt, hxf, hxe⟩ | ⟨hxf, hxe⟩
              · have HX : Hid (ixI (nthL x.lines k).stops (h : Int) = (ix : Int)) := Lib.hid hxe
                have HXT := Lib.hid hxt
                have HXF := Lib.hid hxf
                have hxw : IntKind.i64.wrap ((ix : Int) + 1) = (ix : Int) + 1 := IntWalk.i64_in _ (by omega)
                clear hxe hxt hxf hxw
                by_cases hend : ix + 1 < (nthL x.lines k).stops.length
                · have hcn : ¬ cs = ix + 1 := by omega
                  go_wp2_with (go_at_call 125; refine (slicesIndex_any _ _ _ _ _ HI.out.at (by omega)).mono ?_; rintro e w5 ⟨rfl, rfl⟩; rw [HX.out])
                  generalize (wr.alloc (.cells #[.string (nthL x.lines k).name, .slice (some ⟨bs, os, none⟩) (nthL x.lines k).stops.length cs, .slice R (nthL x.lines k).runs.length cr] 94)) = wl at *
                  clear e0 e1 e2
                  go_loopw [7, 59] (fun v i wi => ∃ p : Nat, p ≤ (nthL x.lines k).stops.length - (ix + 1) ∧ i = .int .i64 p ∧ RdSt x f (w.heap.size + 1) w0 gk (rideP x h k ix p) h v wi) (fun _ i _ => ((nthL x.lines k).stops.length - (ix + 1)) - (intOf i).toNat)
                  case atStart => exact ⟨0, Nat.zero_le _, rfl, HS5.out.skip (fun t => rideP_zero)⟩
                  case round =>
                    obtain ⟨p, hp, rfl, hst⟩ := hrel
                    have HST6 := Lib.hid hst
                    obtain ⟨g2, o2, n2, c2, l2, ob2, rfl, hq2, hao2, hbf2, hct2, hb2⟩ := hst
                    by_cases hpl : p < (nthL x.lines k).stops.length - (ix + 1)
                    · have hs := inB_iff.1 (HSO.out (ix + 1 + p) (by omega)).1
                      obtain ⟨t, htv⟩ : ∃ t : Nat, nth (nthL x.lines k).stops (ix + 1 + p) = (t : Int) := ⟨(nth (nthL x.lines k).stops (ix + 1 + p)).toNat, by omega⟩
                      have htl : t < x.stops.length := by omega
                      have hti : (t : Int) < (x.stops.length : Int) := by omega
                      have hhi : (h : Int) < (x.stops.length : Int) := by omega
                      have hpi : (p : Int) < (((nthL x.lines k).stops.length - (ix + 1) : Nat) : Int) := by omega
                      obtain ⟨_, _, _, e3⟩ := HK.out _ hb2
                      have d0 : wr.cell? ⟨bs, os + (ix + 1) + p, none⟩ = some (.int .i64 (t : Int)) := by rw [← htv, Nat.add_assoc]; exact e3 _ (by omega)
                      have d1 := hao2.cells t htl
                      have d2 := hao2.cells h hhs
                      have d3 := hao2.free t
                      have hset := setN_le ob2
                      have hol2 := hbf2.len
                      have hb0 := hbf2.bnd h hhs
                      obtain ⟨_, hh2⟩ := hbf2.inq h (by simp)
                      have hz2 := hao2.lt
                      have hqn := hq2.num
                      have HTV := Lib.hid htv
                      have HAO2 := Lib.hid hao2
                      have HBF2 := Lib.hid hbf2
                      have HQ2 := Lib.hid hq2
                      have HB3 := Lib.hid hb2
                      have HOL2 := Lib.hid hol2
                      have hn2 : n2 ≤ 8 := by simp only [List.length_cons] at hqn; omega
                      have hc28 : nth ob2 h ≤ 8 := by omega
                      have HC2 := Lib.hid hct2
                      clear e3 hs htv hao2 hbf2 hq2 hb2 hqn hct2 hset hol2 hb0
                      by_cases t1 : nth ob2 t < 0
                      · have HSX := Lib.hid (HQ2.out.setX t (.int .i64 (nth ob2 h + 1)))
                        have HAX := Lib.hid (HAO2.out.put HOL2.out htl (nth ob2 h + 1))
                        have HBX := Lib.hid (HB3.out.setCell (p := ⟨w.heap.size + 1, t, none⟩) (Nat.le_refl _) (.int .i64 (nth ob2 h + 1)))
                        have HPX : Hid (BfsAt x f (ob2.set t (nth ob2 h + 1)) (h :: l2 ++ [t]) (rideP x h k ix (p + 1))) := Lib.hid (HBF2.out.put htl t1 ⟨k, hlt, ix + 1 + p, by omega, ix, by omega, by have := HXT.out; unfold eqAt at this; simpa using this, HTV.out⟩ (fun u hu => rideP_succ HTV.out hu))
                        have HNX := Lib.hid (setN_set (v := nth ob2 h + 1) (by rw [HOL2.out]; exact htl) t1 (by omega))
                        have hzx : w.heap.size + 1 < (wr.setCell ⟨w.heap.size + 1, t, none⟩ (.int .i64 (nth ob2 h + 1))).heap.size := by simpa [World.setCell] using hz2
                        go_wp2_with (at_builtin; refine wp_appQ rfl _ _ rfl (w.heap.size + 1) (w.heap.size + 1) g2 o2 n2 c2 (h :: l2) t _ HSX.out rfl _ rfl (by simp) (by omega) (Nat.le_of_lt hzx) hzx ?_; intro g3 o3 c3 w3 hq3 hb3 hs3 hz3; have HQ3 := Lib.hid hq3; have HB5 := Lib.hid (HBX.out.trans hb3); have HAX3 := Lib.hid (HAX.out.same hs3 hz3); clear hq3 hb3 hs3 hz3)
                        go_roundw
                        case rel => exact ⟨p + 1, by omega, by go_num, ⟨g3, o3, _, c3, l2 ++ [t], _, rfl, HQ3.out, HAX3.out, HPX.out, by rw [HNX.out, List.length_append]; have := HC2.out; simp; omega, HB5.out⟩⟩
                        case measure => simp [intOf]; omega
                      · have HSK : Hid (RdSt x f (w.heap.size + 1) w0 gk (rideP x h k ix (p + 1)) h (.slice (some ⟨g2, o2, none⟩) n2 c2) wr) := Lib.hid ⟨g2, o2, n2, c2, l2, ob2, rfl, HQ2.out, HAO2.out, HBF2.out.skip (fun u hu hd => by
                          rcases rideP_succ HTV.out hd with g | g
                          · exact .inl g
                          · subst g; exact .inr (by omega)), HC2.out, HB3.out⟩
                        go_wp2_with fail
                        go_roundw
                        case rel => exact ⟨p + 1, by omega, by go_num, HSK.out⟩
                        case measure => simp [intOf]; omega
                    · obtain rfl : p = (nthL x.lines k).stops.length - (ix + 1) := by omega
                      have HSN : Hid (RdSt x f (w.heap.size + 1) w0 gk (rideI x h (k + 1)) h (.slice (some ⟨g2, o2, none⟩) n2 c2) wr) := Lib.hid (HST6.out.skip (fun t ht => by
                        rcases rideI_step HXF.out ht with g | ⟨b, b1, b2, b3⟩
                        · exact .inl g
                        · exact .inr ⟨b, b1, by omega, b3⟩))
                      clear hq2 hao2 hbf2 hct2 hb2
                      go_wp2_with fail
                      go_roundw
                      case rel => exact ⟨k + 1, by omega, by go_num, HSN.out⟩
                      case measure => simp [intOf]; omega
                · have hend' : (nthL x.lines k).stops.length ≤ ix + 1 := by omega
                  have hl0 : (nthL x.lines k).stops.length - (ix + 1) = 0 := by omega
                  have HSN : Hid (RdSt x f (w.heap.size + 1) w0 gk (rideI x h (k + 1)) h (.slice (some ⟨g1, o1, none⟩) n1 c1) (wr.alloc (.cells #[.string (nthL x.lines k).name, .slice (some ⟨bs, os, none⟩) (nthL x.lines k).stops.length cs, .slice R (nthL x.lines k).runs.length cr] 94))) := Lib.hid (HS5.out.skip (fun t ht => by
                    rcases rideI_step HXF.out ht with g | ⟨b, b1, b2, b3⟩
                    · exact g
                    · omega))
                  rcases Classical.em (cs = ix + 1) with rfl | hcn
                  all_goals
                    go_wp2_with (go_at_call 125; refine (slicesIndex_any _ _ _ _ _ HI.out.at (by omega)).mono ?_; rintro e w5 ⟨rfl, rfl⟩; rw [HX.out])
                    go_loopw [7, 59] (fun v i wi => i = .int .i64 0 ∧ RdSt x f (w.heap.size + 1) w0 gk (rideI x h (k + 1)) h v wi) (fun _ _ _ => 0)
                    case atStart => exact ⟨rfl, HSN.out⟩
                    case round =>
                      obtain ⟨rfl, hst⟩ := hrel
                      have HSM := Lib.hid hst
                      clear hst
                      go_wp2_with fail
                      go_roundw
                      case rel => exact ⟨k + 1, by omega, by go_num, HSM.out⟩
                      case measure => simp [intOf]; omega
              · have HX : Hid (ixI (nthL x.lines k).stops (h : Int) = -1) := Lib.hid hxe
                have HXF := Lib.hid hxf
                clear hxe hxf
                go_wp2_with (go_at_call 125; refine (slicesIndex_any _ _ _ _ _ HI.out.at (by omega)).mono ?_; rintro e w5 ⟨rfl, rfl⟩; rw [HX.out])
                go_roundw
                case rel => exact ⟨k + 1, by omega, by go_num, HS5.out.skip (fun t => rideI_skip HXF.out)⟩
                case measure => simp [intOf]; omega
            · obtain rfl : k = x.lines.length := by omega
              have hset := setN_le ob1
              have hol1 := hbf1.len
              have HST7 : Hid (∀ o2 n2 c2, QueI wr (w.heap.size + 1) (w.heap.size + 1) g1 o2 n2 c2 l1 → RdHd x f (w.heap.size + 1) w0 (gk - 1) (.slice (some ⟨g1, o2, none⟩) n2 c2) wr) := Lib.hid (fun o2 n2 c2 hq => ⟨g1, o2, n2, c2, l1, ob1, rfl, hq, hao1, (hbf1.skip (D' := rideE x h) (fun t _ ht => .inl ht)).pop, by omega, by omega, hb1⟩)
              have hgk1 : gk - 1 < gk := by omega
              have hn1 := hq1.head.1
              have hn1i : (1 : Int) ≤ (n1 : Int) := by omega
              by_cases hc1 : c1 = 1
              · subst hc1
                obtain ⟨hl1', rfl, hqt⟩ := hq1.tail1 rfl
                have HQT := Lib.hid hqt
                clear hqt hq1 hao1 hbf1 hct1 hb1 hset hol1 hl1'
                go_wp2_with fail
                go_roundg (gk - 1)
                case measure => exact hgk1
                case rel => exact HST7.out _ _ _ HQT.out
              · have HQT := Lib.hid (hq1.tail hc1)
                clear hq1 hao1 hbf1 hct1 hb1 hset hol1
                go_wp2_with fail
                go_roundg (gk - 1)
                case measure => exact hgk1
                case rel => exact HST7.out _ _ _ HQT.out
end Go.Proofs.Ytbneigkgdjcnjaa
