/- Walking times: the program's table. -/
import Derived.Test.YtemhcobjhpifpaaFwa
import Derived.Test.YtemhcobjhpifpaaArr
import Derived.Deep.RegionHeld3
import Derived.Deep.DrawnRows
namespace Go.Proofs.Ytemhcobjhpifpaa
open Go.ChangeShapes Go.WideShapes Go.ChangeAt Go.RowKit Go.PlainAid
set_option linter.unusedVariables false

theorem Try.infoRow : (Try.prog.info? 29).map (fun i => (i.zero, i.size, i.bytes)) = some (some (.slice none 0 0), 1, 24) := by kernel_rfl

/-- A table of n rows of n numbers: block G holds the rows, row i lies in block G + 1 + i. -/
structure MatI (w : World) (G n : Nat) (F : Nat → Nat → Int) : Prop where
  hd : ∀ i, i < n → w.cell? ⟨G, i, none⟩ = some (.slice (some ⟨G + 1 + i, 0, none⟩) n n)
  lt : G < w.heap.size
  row : ∀ i, i < n → ArrI w (G + 1 + i) n (F i)
section
variable {w w' : World} {G n B : Nat} {F F' : Nat → Nat → Int}
theorem MatI.congr (h : MatI w G n F) (e : ∀ i j, i < n → j < n → F i j = F' i j) : MatI w G n F' := ⟨h.hd, h.lt, fun i hi => (h.row i hi).congr fun j hj => e i j hi hj⟩
theorem MatI.call (h : MatI w G n F) (hb : Below w.heap.size w w') : MatI w' G n F :=
  ⟨fun i hi => (hb.cell (p := ⟨G, i, none⟩) h.lt).trans (h.hd i hi), Nat.lt_of_lt_of_le h.lt hb.size, fun i hi => (h.row i hi).call hb⟩
theorem MatI.drewN (h : MatI w G n F) (k : Nat) : MatI (w.drewN k) G n F := ⟨h.hd, h.lt, fun i hi => (h.row i hi).drewN k⟩
theorem MatI.drew (h : MatI w G n F) : MatI w.drew G n F := h.drewN 1
theorem MatI.at' (h : MatI w G n F) {i j : Nat} (hi : i < n) (hj : j < n) : w.cell? ⟨G + 1 + i, j, none⟩ = some (.int .i64 (F i j)) := (h.row i hi).cells j hj
theorem MatI.set (h : MatI w G n F) {i j : Nat} (hi : i < n) (hj : j < n) (v : Int) : MatI (w.setCell ⟨G + 1 + i, j, none⟩ (.int .i64 v)) G n (fun a b => if a = i ∧ b = j then v else F a b) where
  hd := fun a ha => by rw [World.cell?_setCell_other _ _ _ _ (fun e => by injection e with e1; omega)]; exact h.hd a ha
  lt := by simpa [World.setCell] using h.lt
  row := fun a ha => by
    by_cases e : a = i
    · subst e
      refine ((h.row a ha).set hj v).congr fun b hb => ?_
      by_cases e2 : b = j
      · subst e2; rw [if_pos rfl, if_pos ⟨rfl, rfl⟩]
      · rw [if_neg e2, if_neg (fun g => e2 g.2)]
    · have hr := h.row a ha
      refine (ArrI.congr (F := F a) ⟨fun b hb => ?_, fun b => by rw [World.frozen?_setCell]; exact hr.free b, by simpa [World.setCell] using hr.lt⟩ fun b hb => by rw [if_neg (fun g => e g.1)])
      rw [World.cell?_setCell_other _ _ _ _ (fun g => by injection g with g1; omega)]
      exact hr.cells b hb
end
/-- The first i rows have been made. -/
structure MatUp (w : World) (G n i : Nat) (F : Nat → Nat → Int) : Prop where
  hd : Fill w G n i (fun j => .slice (some ⟨G + 1 + j, 0, none⟩) n n)
  row : ∀ j, j < i → ArrI w (G + 1 + j) n (F j)
  size : w.heap.size = G + 1 + i
theorem MatUp.all {w : World} {G n : Nat} {F : Nat → Nat → Int} (h : MatUp w G n n F) : MatI w G n F := ⟨fun i hi => h.hd.done i hi, h.hd.lt, h.row⟩
/-- A row more, whose numbers are set one after the other. -/
structure MatRow (w : World) (G n i : Nat) (F : Nat → Nat → Int) (r : Nat → Int) : Prop where
  hd : Fill w G n (i + 1) (fun j => .slice (some ⟨G + 1 + j, 0, none⟩) n n)
  row : ∀ j, j < i → ArrI w (G + 1 + j) n (F j)
  cur : ArrI w (G + 1 + i) n r
  size : w.heap.size = G + 1 + i + 1
section
variable {w : World} {G n i : Nat} {F : Nat → Nat → Int} {r : Nat → Int}
theorem MatUp.row' {T : TypeId} (h : MatUp w G n i F) (hi : i < n) : MatRow ((w.setCell ⟨G, i, none⟩ (.slice (some ⟨w.heap.size, 0, none⟩) n n)).alloc (.cells (madeCells #[.int .i64 0] n) T)) G n i F (fun _ => 0) := by
  rw [← World.setCell_alloc_past _ _ _ _ h.hd.lt]
  have hb : Below w.heap.size w (w.alloc (.cells (madeCells #[.int .i64 0] n) T)) := (Below.refl _ _).alloc (Nat.le_refl _) _
  have hz := h.size
  have hg := h.hd.lt
  have hd2 := (h.hd.keep hb hg).step hi
  have hset : ∀ {g : Nat} {f : Nat → Int}, g ≠ G → ArrI (w.alloc (.cells (madeCells #[.int .i64 0] n) T)) g n f → ArrI ((w.alloc (.cells (madeCells #[.int .i64 0] n) T)).setCell ⟨G, i, none⟩ (.slice (some ⟨w.heap.size, 0, none⟩) n n)) g n f := fun {g f} hne ha =>
    ⟨fun j hj => by rw [World.cell?_setCell_other _ _ _ _ (fun e => by injection e with e1; omega)]; exact ha.cells j hj, fun j => by rw [World.frozen?_setCell]; exact ha.free j, by simpa [World.setCell] using ha.lt⟩
  refine ⟨?_, fun j hj => hset (by omega) ((h.row j hj).call hb), hset (by omega) (by rw [← hz]; exact ArrI.made w n T), by simp; omega⟩
  rw [← hz] at hd2
  exact hd2
theorem MatRow.set (h : MatRow w G n i F r) {j : Nat} (hj : j < n) (v : Int) : MatRow (w.setCell ⟨G + 1 + i, j, none⟩ (.int .i64 v)) G n i F (fun b => if b = j then v else r b) := by
  have hne : ∀ k, k ≠ G + 1 + i → ∀ {f : Nat → Int}, ArrI w k n f → ArrI (w.setCell ⟨G + 1 + i, j, none⟩ (.int .i64 v)) k n f := fun k hk f ha =>
    ⟨fun b hb => by rw [World.cell?_setCell_other _ _ _ _ (fun e => by injection e with e1; omega)]; exact ha.cells b hb, fun b => by rw [World.frozen?_setCell]; exact ha.free b, by simpa [World.setCell] using ha.lt⟩
  refine ⟨⟨fun b hb => ?_, fun b h1 h2 => ?_, fun b => by rw [World.frozen?_setCell]; exact h.hd.free b, by simpa [World.setCell] using h.hd.lt⟩, fun k hk => hne _ (by omega) (h.row k hk), h.cur.set hj v, by simpa [World.setCell] using h.size⟩
  · rw [World.cell?_setCell_other _ _ _ _ (fun e => by injection e with e1; omega)]; exact h.hd.done b hb
  · rw [World.cell?_setCell_other _ _ _ _ (fun e => by injection e with e1; omega)]; exact h.hd.there b h1 h2
theorem MatRow.congr {r' : Nat → Int} (h : MatRow w G n i F r) (e : ∀ j, j < n → r j = r' j) : MatRow w G n i F r' := ⟨h.hd, h.row, h.cur.congr e, h.size⟩
theorem MatRow.done (h : MatRow w G n i F r) (e : ∀ j, j < n → r j = F i j) : MatUp w G n (i + 1) F :=
  ⟨h.hd, fun j hj => by
    by_cases g : j = i
    · subst g; exact h.cur.congr e
    · exact h.row j (by omega), h.size⟩
end

/-- The table in the midst of pivot m: rows below i, and of row i the places below j, are done. -/
def fwM (xs : List I3) (m i j : Nat) (a b : Nat) : Int := if a < i ∨ (a = i ∧ b < j) then fw xs (m + 1) a b else fw xs m a b
section
variable {n : Nat} {xs : List I3} {m i j : Nat}
theorem fwM_col (h : Wks n xs) (hm : m < n) (hi : i < n) : fwM xs m i j i m = fw xs m i m := by
  unfold fwM
  split
  · exact fw_col h hm hi
  · rfl
theorem fwM_row (h : Wks n xs) (hm : m < n) (b : Nat) : fwM xs m i j m b = fw xs m m b := by
  unfold fwM
  split
  · exact fw_row h hm
  · rfl
theorem fwM_at : fwM xs m i j i j = fw xs m i j := by
  unfold fwM
  rw [if_neg (by omega)]
theorem fwM_skip (e : fw xs (m + 1) i j = fw xs m i j) (a b : Nat) : fwM xs m i j a b = fwM xs m i (j + 1) a b := by
  unfold fwM
  by_cases g : a = i ∧ b = j
  · obtain ⟨rfl, rfl⟩ := g
    rw [if_neg (by omega), if_pos (by omega), e]
  · by_cases h : a < i ∨ a = i ∧ b < j
    · rw [if_pos h, if_pos (by omega)]
    · rw [if_neg h, if_neg (by omega)]
theorem fwM_put (v : Int) (e : fw xs (m + 1) i j = v) (a b : Nat) : (if a = i ∧ b = j then v else fwM xs m i j a b) = fwM xs m i (j + 1) a b := by
  unfold fwM
  by_cases g : a = i ∧ b = j
  · obtain ⟨rfl, rfl⟩ := g
    rw [if_pos ⟨rfl, rfl⟩, if_pos (by omega), e]
  · rw [if_neg g]
    by_cases h : a < i ∨ a = i ∧ b < j
    · rw [if_pos h, if_pos (by omega)]
    · rw [if_neg h, if_neg (by omega)]
theorem fwM_next {a b : Nat} (hb : b < n) : fwM xs m i n a b = fwM xs m (i + 1) 0 a b := by
  unfold fwM
  by_cases h : a < i ∨ a = i ∧ b < n
  · rw [if_pos h, if_pos (by omega)]
  · rw [if_neg h, if_neg (by omega)]
theorem fwM_start (a b : Nat) : fwM xs m 0 0 a b = fw xs m a b := by
  unfold fwM
  rw [if_neg (by omega)]
theorem fwM_end {a b : Nat} (ha : a < n) : fwM xs m n 0 a b = fw xs (m + 1) a b := by
  unfold fwM
  rw [if_pos (by omega)]
theorem fw_keep (h : fw xs m i m < 0 ∨ fw xs m m j < 0) : fw xs (m + 1) i j = fw xs m i j := by
  simp only [fw]
  have e : plusI (fw xs m i m) (fw xs m m j) = -1 := if_pos h
  rw [e]
  unfold minI
  rw [if_pos (by omega)]
theorem fw_stay (h1 : 0 ≤ fw xs m i m) (h2 : 0 ≤ fw xs m m j) (h3 : ¬ fw xs m i j < 0) (h4 : ¬ fw xs m i m + fw xs m m j < fw xs m i j) : fw xs (m + 1) i j = fw xs m i j := by
  simp only [fw]
  have e : plusI (fw xs m i m) (fw xs m m j) = fw xs m i m + fw xs m m j := if_neg (by omega)
  rw [e]
  unfold minI
  rw [if_neg (by omega), if_neg (by omega)]
theorem fw_new (h1 : 0 ≤ fw xs m i m) (h2 : 0 ≤ fw xs m m j) (h3 : fw xs m i j < 0 ∨ fw xs m i m + fw xs m m j < fw xs m i j) : fw xs (m + 1) i j = fw xs m i m + fw xs m m j := by
  simp only [fw]
  have e : plusI (fw xs m i m) (fw xs m m j) = fw xs m i m + fw xs m m j := if_neg (by omega)
  rw [e]
  unfold minI
  rw [if_neg (by omega), if_pos h3]
end
/-- One walk more in the table. -/
theorem fwB_put {xs : List I3} {k a b : Nat} (ha : (nth3 xs k).a = (a : Int)) (hb : (nth3 xs k).b = (b : Int)) (i j : Nat) :
    (if i = b ∧ j = a then (nth3 xs k).c else if i = a ∧ j = b then (nth3 xs k).c else fwB xs k i j) = fwB xs (k + 1) i j := by
  simp only [fwB]
  by_cases h1 : i = b ∧ j = a
  · rw [if_pos h1, if_pos (.inr ⟨by omega, by omega⟩)]
  · rw [if_neg h1]
    by_cases h2 : i = a ∧ j = b
    · rw [if_pos h2, if_pos (.inl ⟨by omega, by omega⟩)]
    · rw [if_neg h2, if_neg (by unfold conn; omega)]

/-- A table of walking times in new memory. -/
def RetM (n : Nat) (F : Nat → Nat → Int) (w : World) (e : Ending) (w' : World) : Prop :=
  ∃ G, e = .returned (.slice (some ⟨G, 0, none⟩) n n) ∧ MatI w' G n F ∧ w.heap.size ≤ G ∧ Below w.heap.size w w'

set_option maxRecDepth 100000 in
set_option maxHeartbeats 4000000 in
theorem walkTable_any (x : NetD) (A L V : Option Addr) (ca cl cv : Nat) (xs : List I3) (w : World) (hV : I3sIn w (Zone.below w.heap.size) V xs) (h0 : 0 < x.stops.length) (h8 : x.stops.length ≤ 8) (hv : xs.length ≤ 1048576) (hw : Wks x.stops.length xs) :
    Calls Try.prog 27 #[.agg #[.slice A x.stops.length ca, .slice L x.lines.length cl], .slice V xs.length cv] w (RetM x.stops.length (fw xs x.stops.length) w) := by
  obtain ⟨i0, hi, hz0, hz1, hz2⟩ := info_parts Try.infoI
  obtain ⟨i1, hi', hz0', hz1', hz2'⟩ := info_parts Try.infoRow
  have hmk := fun W => run_make_n (P := Try.prog) 29 3 i0 _ Try.underlying29 hi hz0 x.stops.length 1 8 hz1 hz2 (by omega) (by omega) W
  have hmk2 := fun W => run_make_n (P := Try.prog) 58 29 i1 _ Try.underlying58 hi' hz0' x.stops.length 1 24 hz1' hz2' (by omega) (by omega) W
  have hb0 : Below w.heap.size w (w.alloc (.cells #[.slice A x.stops.length ca, .slice L x.lines.length cl] 34)) := by go_grown
  have HB0 := Lib.hid hb0
  have HV := Lib.hid (hV.call hb0)
  have HW := Lib.hid hw
  have hz : w.heap.size < (w.alloc (.cells #[.slice A x.stops.length ca, .slice L x.lines.length cl] 34)).heap.size := by simp
  have HZ : Hid ((w.alloc (.cells #[.slice A x.stops.length ca, .slice L x.lines.length cl] 34)).heap.size = w.heap.size + 1) := Lib.hid (by simp)
  clear hV hb0 hw
  go_enter Try.func27, Try.ntmps27
  go_wp2_with fail
  generalize (w.alloc (.cells #[.slice A x.stops.length ca, .slice L x.lines.length cl] 34)) = w0 at *
  have HV1 : Hid (I3sIn w0 (Zone.below (w.heap.size + 1)) V xs) := Lib.hid (by have h := HV.out; rw [HZ.out] at h; exact h)
  have HS0 : Hid (MatUp (w0.alloc (.cells (madeCells #[.slice none 0 0] x.stops.length) 29)) (w.heap.size + 1) x.stops.length 0 (fwB xs 0)) := Lib.hid (by
    have h : MatUp (w0.alloc (.cells (madeCells #[.slice none 0 0] x.stops.length) 29)) w0.heap.size x.stops.length 0 (fwB xs 0) := ⟨Fill.made w0 #[.slice none 0 0] x.stops.length 29 _, fun j hj => by omega, by simp⟩
    rw [HZ.out] at h
    exact h)
  have HS1 : Hid (Below (w.heap.size + 1) w0 (w0.alloc (.cells (madeCells #[.slice none 0 0] x.stops.length) 29))) := Lib.hid ((Below.refl _ _).alloc (by rw [HZ.out]; exact Nat.le_refl _) _)
  go_loopw [22] (fun i wr => ∃ k : Nat, k ≤ x.stops.length ∧ i = .int .i64 k ∧ MatUp wr (w.heap.size + 1) x.stops.length k (fwB xs 0) ∧ Below (w.heap.size + 1) w0 wr) (fun i _ => x.stops.length - (intOf i).toNat)
  case atStart => exact ⟨0, Nat.zero_le _, rfl, by simpa using HS0.out, by simpa using HS1.out⟩
  case round =>
    obtain ⟨k, hk, rfl, hm, hb⟩ := hrel
    have HM := Lib.hid hm
    have HB := Lib.hid hb
    have hzr : w.heap.size + 1 ≤ wr.heap.size := by have := hb.size; rw [HZ.out] at this; exact this
    by_cases hlt : k < x.stops.length
    · have hik : (k : Int) < (x.stops.length : Int) := by omega
      obtain ⟨v0, hv0⟩ := hm.hd.there k (Nat.le_refl _) hlt
      have hfr := hm.hd.free k
      have hgl := hm.hd.lt
      have HROW := Lib.hid (hm.row' (T := 3) hlt)
      have hcw : ((wr.setCell ⟨w.heap.size + 1, k, none⟩ (.slice (some ⟨wr.heap.size, 0, none⟩) x.stops.length x.stops.length)).alloc (.cells (madeCells #[.int .i64 0] x.stops.length) 3)).cell? ⟨(w.heap.size + 1), k, none⟩ = some (.slice (some ⟨wr.heap.size, 0, none⟩) x.stops.length x.stops.length) :=
        HROW.out.hd.done k (by omega) |>.trans (by rw [show (w.heap.size + 1 + 1 + k) = wr.heap.size by have := HM.out.size; omega])
      have HBW := Lib.hid ((HB.out.setCell (p := ⟨w.heap.size + 1, k, none⟩) (Nat.le_refl _) (.slice (some ⟨wr.heap.size, 0, none⟩) x.stops.length x.stops.length)).alloc (by simpa [World.setCell] using hzr) (.cells (madeCells #[.int .i64 0] x.stops.length) 3))
      clear hm hb
      go_wp2_with fail
      generalize ((wr.setCell ⟨w.heap.size + 1, k, none⟩ (.slice (some ⟨wr.heap.size, 0, none⟩) x.stops.length x.stops.length)).alloc (.cells (madeCells #[.int .i64 0] x.stops.length) 3)) = w1 at *
      obtain ⟨wo, rfl⟩ : ∃ wo : World, wo = wr := ⟨_, rfl⟩
      go_loopw [35] (fun i wi => ∃ j : Nat, j ≤ x.stops.length ∧ i = .int .i64 j ∧ MatRow wi (w.heap.size + 1) x.stops.length k (fwB xs 0) (fun b => if b < j then fwB xs 0 k b else 0) ∧ Below (w.heap.size + 1) w0 wi) (fun i _ => x.stops.length - (intOf i).toNat)
      case atStart => exact ⟨0, Nat.zero_le _, rfl, HROW.out.congr (fun b _ => by rw [if_neg (by omega)]), HBW.out⟩
      case round =>
        obtain ⟨j, hj, rfl, hm, hb⟩ := hrel
        have HMR := Lib.hid hm
        have HB2 := Lib.hid hb
        by_cases hjl : j < x.stops.length
        · have hij : (j : Int) < (x.stops.length : Int) := by omega
          have c0 := hm.hd.done k (by omega)
          have c1 := hm.cur.cells j hjl
          have c2 := hm.cur.free j
          by_cases he : k = j
          · have HN : Hid (MatRow wr (w.heap.size + 1) x.stops.length k (fwB xs 0) (fun b => if b < j + 1 then fwB xs 0 k b else 0)) := Lib.hid (hm.congr (fun b _ => by
              by_cases e1 : b < j
              · rw [if_pos e1, if_pos (by omega)]
              · rw [if_neg e1]
                by_cases e2 : b = j
                · subst e2; rw [if_pos (by omega)]; simp [fwB, he]
                · rw [if_neg (by omega)]))
            have h1 : ((k : Int) != (j : Int)) = false := by simp [he]
            have h2 : ((k : Int) == (j : Int)) = true := by simp [he]
            clear hm hb he c1
            go_wp2_with fail
            go_roundw
            case rel => exact ⟨j + 1, by omega, by go_num, HN.out, HB2.out⟩
            case measure => simp [intOf]; omega
          · have HN : Hid (MatRow (wr.setCell ⟨(w.heap.size + 1) + 1 + k, j, none⟩ (.int .i64 (-1))) (w.heap.size + 1) x.stops.length k (fwB xs 0) (fun b => if b < j + 1 then fwB xs 0 k b else 0)) := Lib.hid ((hm.set hjl (-1)).congr (fun b _ => by
              by_cases e2 : b = j
              · subst e2; rw [if_pos rfl, if_pos (by omega)]; simp [fwB, he]
              · rw [if_neg e2]
                by_cases e1 : b < j
                · rw [if_pos e1, if_pos (by omega)]
                · rw [if_neg e1, if_neg (by omega)]))
            have h1 : ((k : Int) != (j : Int)) = true := by simp; omega
            have h2 : ((k : Int) == (j : Int)) = false := by simp; omega
            clear hm hb he
            go_wp2_with fail
            go_roundw
            case rel => exact ⟨j + 1, by omega, by go_num, HN.out, HB2.out.setCell (by simp; omega) _⟩
            case measure => simp [intOf]; omega
        · obtain rfl : j = x.stops.length := by omega
          have HN := Lib.hid (hm.done (fun b hb => by rw [if_pos hb]))
          clear hm hb
          go_wp2_with fail
          go_roundw
          case rel => exact ⟨k + 1, by omega, by go_num, HN.out, HB2.out⟩
          case measure => simp [intOf]; omega
    · obtain rfl : k = x.stops.length := by omega
      have HA := Lib.hid hm.all
      clear hm hb
      go_wp2_with fail
      -- the walks
      go_loopw [51] (fun i wi => ∃ k : Nat, k ≤ xs.length ∧ i = .int .i64 k ∧ MatI wi (w.heap.size + 1) x.stops.length (fwB xs k) ∧ Below (w.heap.size + 1) w0 wi) (fun i _ => xs.length - (intOf i).toNat)
      case atStart => exact ⟨0, Nat.zero_le _, rfl, HA.out, HB.out⟩
      case round =>
        clear hzr
        obtain ⟨k, hk, rfl, hm, hb⟩ := hrel
        have HM3 := Lib.hid hm
        have HB3 := Lib.hid hb
        have hzr : w.heap.size + 1 ≤ wr.heap.size := by have := hb.size; rw [HZ.out] at this; exact this
        have hgl := hm.lt
        by_cases hlt : k < xs.length
        · have hik : (k : Int) < (xs.length : Int) := by omega
          obtain ⟨b, o, rfl, hbl, hc0, hc1, hc2⟩ := I3sIn.at (HV1.out.at_below hb) hlt
          have hok := HW.out.ok k hlt
          unfold WkOk at hok
          obtain ⟨a', ha'⟩ : ∃ a' : Nat, (nth3 xs k).a = (a' : Int) := ⟨(nth3 xs k).a.toNat, by omega⟩
          obtain ⟨b', hb'⟩ : ∃ b' : Nat, (nth3 xs k).b = (b' : Int) := ⟨(nth3 xs k).b.toNat, by omega⟩
          rw [ha'] at hc0
          rw [hb'] at hc1
          have hal : a' < x.stops.length := by omega
          have hbl' : b' < x.stops.length := by omega
          have hai : (a' : Int) < (x.stops.length : Int) := by omega
          have hbi : (b' : Int) < (x.stops.length : Int) := by omega
          have hwb : Below wr.heap.size wr (wr.alloc (.cells #[.int .i64 (a' : Int), .int .i64 (b' : Int), .int .i64 (nth3 xs k).c] 53)) := (Below.refl _ _).alloc (Nat.le_refl _) _
          have HM4 := Lib.hid (hm.call hwb)
          have HB4 := Lib.hid (HB3.out.alloc hzr (.cells #[.int .i64 (a' : Int), .int .i64 (b' : Int), .int .i64 (nth3 xs k).c] 53))
          have b0 : (wr.alloc (.cells #[.int .i64 (a' : Int), .int .i64 (b' : Int), .int .i64 (nth3 xs k).c] 53)).cell? ⟨wr.heap.size, 0, none⟩ = some (.int .i64 (a' : Int)) := by go_simp
          have b1 : (wr.alloc (.cells #[.int .i64 (a' : Int), .int .i64 (b' : Int), .int .i64 (nth3 xs k).c] 53)).cell? ⟨wr.heap.size, 1, none⟩ = some (.int .i64 (b' : Int)) := by go_simp
          have b2 : (wr.alloc (.cells #[.int .i64 (a' : Int), .int .i64 (b' : Int), .int .i64 (nth3 xs k).c] 53)).cell? ⟨wr.heap.size, 2, none⟩ = some (.int .i64 (nth3 xs k).c) := by go_simp
          have HPA := Lib.hid ha'
          have HPB := Lib.hid hb'
          have Hb0 := Lib.hid b0
          have Hb1 := Lib.hid b1
          have Hb2 := Lib.hid b2
          clear hm hb hok ha' hb' b0 b1 b2 hwb
          go_wp2_with fail
          generalize (wr.alloc (.cells #[.int .i64 (a' : Int), .int .i64 (b' : Int), .int .i64 (nth3 xs k).c] 53)) = wl at *
          have b0 := Hb0.out
          have b1 := Hb1.out
          have b2 := Hb2.out
          have d0 := HM4.out.hd a' hal
          have d1 := HM4.out.hd b' hbl'
          have d2 := HM4.out.at' hal hbl'
          have d3 := HM4.out.at' hbl' hal
          have d4 := (HM4.out.row a' hal).free b'
          have d5 := (HM4.out.row b' hbl').free a'
          obtain ⟨c, hc⟩ : ∃ c, c = (nth3 xs k).c := ⟨_, rfl⟩
          have HC := Lib.hid hc
          rw [← hc] at b2
          clear hc hc0 hc1 hc2
          have HMS : Hid (MatI ((wl.setCell ⟨(w.heap.size + 1) + 1 + a', b', none⟩ (.int .i64 c)).setCell ⟨(w.heap.size + 1) + 1 + b', a', none⟩ (.int .i64 c)).drew (w.heap.size + 1) x.stops.length (fwB xs (k + 1))) := Lib.hid ((((HM4.out.set hal hbl' c).set hbl' hal c).drew).congr (fun i j _ _ => by rw [HC.out]; exact fwB_put HPA.out HPB.out i j))
          have HBS : Hid (Below (w.heap.size + 1) w0 ((wl.setCell ⟨(w.heap.size + 1) + 1 + a', b', none⟩ (.int .i64 c)).setCell ⟨(w.heap.size + 1) + 1 + b', a', none⟩ (.int .i64 c)).drew) := Lib.hid ((HB4.out.setCell (by simp; omega) _).setCell (by simp; omega) _).drew
          have hab : a' ≠ b' := by have := HPA.out; have := HPB.out; have := (HW.out.ok k hlt); unfold WkOk at this; omega
          have d6 : (wl.setCell ⟨(w.heap.size + 1) + 1 + a', b', none⟩ (.int .i64 c)).cell? ⟨(w.heap.size + 1) + 1 + b', a', none⟩ = some (.int .i64 (fwB xs k b' a')) := by rw [World.cell?_setCell_other _ _ _ _ (fun e => by injection e with e1; omega)]; exact d3
          have hgr : w.heap.size + 1 + x.stops.length < wr.heap.size := by
            have := (HM3.out.row (x.stops.length - 1) (by omega)).lt
            omega
          have hoth : ∀ q o' v, q ≠ w.heap.size + 1 + 1 + a' → wl.cell? ⟨q, o', none⟩ = some v → (wl.setCell ⟨(w.heap.size + 1) + 1 + a', b', none⟩ (.int .i64 c)).cell? ⟨q, o', none⟩ = some v := fun q o' v hq h => by rw [World.cell?_setCell_other _ _ _ _ (fun e => by injection e with e1; omega)]; exact h
          have g0 := hoth _ _ _ (by omega) b0
          have g1 := hoth _ _ _ (by omega) b1
          have g2 := hoth _ _ _ (by omega) b2
          have g3 := hoth _ _ _ (by omega) d0
          have g4 := hoth _ _ _ (by omega) d1
          have hoth2 : ∀ q o' v, q ≠ w.heap.size + 1 + 1 + b' → (wl.setCell ⟨(w.heap.size + 1) + 1 + a', b', none⟩ (.int .i64 c)).cell? ⟨q, o', none⟩ = some v → ((wl.setCell ⟨(w.heap.size + 1) + 1 + a', b', none⟩ (.int .i64 c)).setCell ⟨(w.heap.size + 1) + 1 + b', a', none⟩ (.int .i64 c)).cell? ⟨q, o', none⟩ = some v := fun q o' v hq h => by rw [World.cell?_setCell_other _ _ _ _ (fun e => by injection e with e1; omega)]; exact h
          have h0' := hoth2 _ _ _ (by omega) g0
          have h1' := hoth2 _ _ _ (by omega) g1
          have h2' := hoth2 _ _ _ (by omega) g2
          have h3' := hoth2 _ _ _ (by omega) g3
          have h4' := hoth2 _ _ _ (by omega) g4
          clear hoth hoth2
          go_region_held3 (fun w' => w'.cell? ⟨wr.heap.size, 0, none⟩ = some (.int .i64 (a' : Int)) ∧ w'.cell? ⟨wr.heap.size, 1, none⟩ = some (.int .i64 (b' : Int)) ∧ w'.cell? ⟨wr.heap.size, 2, none⟩ = some (.int .i64 c) ∧ w'.cell? ⟨w.heap.size + 1, a', none⟩ = some (.slice (some ⟨w.heap.size + 1 + 1 + a', 0, none⟩) x.stops.length x.stops.length) ∧ w'.cell? ⟨w.heap.size + 1, b', none⟩ = some (.slice (some ⟨w.heap.size + 1 + 1 + b', 0, none⟩) x.stops.length x.stops.length)) (first | exact ⟨b0, b1, b2, d0, d1⟩ | exact ⟨g0, g1, g2, g3, g4⟩ | exact ⟨h0', h1', h2', h3', h4'⟩) (fail)
          all_goals go_wp2_with fail
          all_goals go_roundw
          all_goals first | (case rel => exact ⟨k + 1, by omega, by go_num, HMS.out, HBS.out⟩) | skip
          all_goals (simp [intOf]; omega)
        · obtain rfl : k = xs.length := by omega
          clear hm hb
          have HFW : Hid (MatI wr (w.heap.size + 1) x.stops.length (fw xs 0)) := Lib.hid (HM3.out.congr (fun i j _ _ => rfl))
          go_wp2_with fail
          clear hgl hzr
          -- the pivots
          go_loopw [77] (fun i wi => ∃ m : Nat, m ≤ x.stops.length ∧ i = .int .i64 m ∧ MatI wi (w.heap.size + 1) x.stops.length (fw xs m) ∧ Below (w.heap.size + 1) w0 wi) (fun i _ => x.stops.length - (intOf i).toNat)
          case atStart => exact ⟨0, Nat.zero_le _, rfl, HFW.out, HB3.out⟩
          case round =>
            obtain ⟨m, hm, rfl, hmat, hb⟩ := hrel
            have HM5 := Lib.hid hmat
            have HB5 := Lib.hid hb
            clear hmat hb
            by_cases hml : m < x.stops.length
            · have him : (m : Int) < (x.stops.length : Int) := by omega
              go_wp2_with fail
              obtain ⟨wo, rfl⟩ : ∃ wo : World, wo = wr := ⟨_, rfl⟩
              go_loopw [81] (fun i wi => ∃ k : Nat, k ≤ x.stops.length ∧ i = .int .i64 k ∧ MatI wi (w.heap.size + 1) x.stops.length (fwM xs m k 0) ∧ Below (w.heap.size + 1) w0 wi) (fun i _ => x.stops.length - (intOf i).toNat)
              case atStart => exact ⟨0, Nat.zero_le _, rfl, HM5.out.congr (fun a b _ _ => (fwM_start a b).symm), HB5.out⟩
              case round =>
                obtain ⟨k, hk, rfl, hmat, hb⟩ := hrel
                have HM6 := Lib.hid hmat
                have HB6 := Lib.hid hb
                clear hmat hb
                by_cases hkl : k < x.stops.length
                · have hikl : (k : Int) < (x.stops.length : Int) := by omega
                  go_wp2_with fail
                  obtain ⟨wo, rfl⟩ : ∃ wo : World, wo = wr := ⟨_, rfl⟩
                  go_loopw [85] (fun i wi => ∃ j : Nat, j ≤ x.stops.length ∧ i = .int .i64 j ∧ MatI wi (w.heap.size + 1) x.stops.length (fwM xs m k j) ∧ Below (w.heap.size + 1) w0 wi) (fun i _ => x.stops.length - (intOf i).toNat)
                  case atStart => exact ⟨0, Nat.zero_le _, rfl, HM6.out, HB6.out⟩
                  case round =>
                    obtain ⟨j, hj, rfl, hmat, hb⟩ := hrel
                    have HM7 := Lib.hid hmat
                    have HB7 := Lib.hid hb
                    by_cases hjl : j < x.stops.length
                    · have hij : (j : Int) < (x.stops.length : Int) := by omega
                      have c0 := hmat.hd k hkl
                      have c1 := hmat.hd m hml
                      have c2 := hmat.at' hkl hml
                      have c3 := hmat.at' hml hjl
                      have c4 := hmat.at' hkl hjl
                      have c5 := (hmat.row k hkl).free j
                      rw [fwM_col HW.out hml hkl] at c2
                      rw [fwM_row HW.out hml] at c3
                      rw [fwM_at] at c4
                      have b1 := fw_bd (j := m) HW.out h8 (m := m) (by omega) hkl
                      have b2 := fw_bd (j := j) HW.out h8 (m := m) (by omega) hml
                      have b3 := fw_bd (j := j) HW.out h8 (m := m) (by omega) hkl
                      obtain ⟨p, hp⟩ : ∃ p, p = fw xs m k m := ⟨_, rfl⟩
                      obtain ⟨q, hq⟩ : ∃ q, q = fw xs m m j := ⟨_, rfl⟩
                      obtain ⟨r, hr⟩ : ∃ r, r = fw xs m k j := ⟨_, rfl⟩
                      rw [← hp] at c2 b1
                      rw [← hq] at c3 b2
                      rw [← hr] at c4 b3
                      obtain ⟨b1a, b1b⟩ := b1
                      obtain ⟨b2a, b2b⟩ := b2
                      obtain ⟨b3a, b3b⟩ := b3
                      have HP := Lib.hid hp
                      have HQ := Lib.hid hq
                      have HR := Lib.hid hr
                      clear hmat hb hp hq hr
                      by_cases t1 : p < 0
                      · have HN := Lib.hid (HM7.out.congr (fun a b _ _ => fwM_skip (fw_keep (.inl (by rw [← HP.out]; exact t1))) a b))
                        go_wp2_with fail
                        go_roundw
                        case rel => exact ⟨j + 1, by omega, by go_num, HN.out, HB7.out⟩
                        case measure => simp [intOf]; omega
                      · by_cases t2 : q < 0
                        · have HN := Lib.hid (HM7.out.congr (fun a b _ _ => fwM_skip (fw_keep (.inr (by rw [← HQ.out]; exact t2))) a b))
                          go_wp2_with fail
                          go_roundw
                          case rel => exact ⟨j + 1, by omega, by go_num, HN.out, HB7.out⟩
                          case measure => simp [intOf]; omega
                        · have hs1 : IntKind.i64.wrap (p + q) = p + q := IntWalk.i64_in _ (by omega)
                          by_cases t3 : r < 0
                          · have HN : Hid (∀ nq, MatI ((wr.drewN nq).setCell ⟨(w.heap.size + 1) + 1 + k, j, none⟩ (.int .i64 (p + q))) (w.heap.size + 1) x.stops.length (fwM xs m k (j + 1))) := Lib.hid (fun nq => ((HM7.out.drewN nq).set hkl hjl (p + q)).congr (fun a b _ _ => fwM_put (p + q) (by rw [fw_new (by rw [← HP.out]; omega) (by rw [← HQ.out]; omega) (.inl (by rw [← HR.out]; exact t3)), HP.out, HQ.out]) a b))
                            go_wp2_with fail
                            go_quiet (fail)
                            go_wp2_with fail
                            go_roundw
                            case rel => exact ⟨j + 1, by omega, by go_num, HN.out _, (bel_drewN HB7.out _).setCell (by simp; omega) _⟩
                            case measure => simp [intOf]; omega
                          · by_cases t4 : p + q < r
                            · have HN : Hid (∀ nq, MatI ((wr.drewN nq).setCell ⟨(w.heap.size + 1) + 1 + k, j, none⟩ (.int .i64 (p + q))) (w.heap.size + 1) x.stops.length (fwM xs m k (j + 1))) := Lib.hid (fun nq => ((HM7.out.drewN nq).set hkl hjl (p + q)).congr (fun a b _ _ => fwM_put (p + q) (by rw [fw_new (by rw [← HP.out]; omega) (by rw [← HQ.out]; omega) (.inr (by rw [← HP.out, ← HQ.out, ← HR.out]; exact t4)), HP.out, HQ.out]) a b))
                              go_wp2_with fail
                              go_quiet (fail)
                              go_wp2_with fail
                              go_roundw
                              case rel => exact ⟨j + 1, by omega, by go_num, HN.out _, (bel_drewN HB7.out _).setCell (by simp; omega) _⟩
                              case measure => simp [intOf]; omega
                            · have HN := Lib.hid (HM7.out.congr (fun a b _ _ => fwM_skip (fw_stay (by rw [← HP.out]; omega) (by rw [← HQ.out]; omega) (by rw [← HR.out]; exact t3) (by rw [← HP.out, ← HQ.out, ← HR.out]; exact t4)) a b))
                              go_wp2_with fail
                              go_quiet (fail)
                              go_wp2_with fail
                              go_roundw
                              case rel => exact ⟨j + 1, by omega, by go_num, HN.out.drewN _, bel_drewN HB7.out _⟩
                              case measure => simp [intOf]; omega
                    · obtain rfl : j = x.stops.length := by omega
                      clear hmat hb
                      go_wp2_with fail
                      go_roundw
                      case rel => exact ⟨k + 1, by omega, by go_num, HM7.out.congr (fun a b _ hb => fwM_next hb), HB7.out⟩
                      case measure => simp [intOf]; omega
                · obtain rfl : k = x.stops.length := by omega
                  go_wp2_with fail
                  go_roundw
                  case rel => exact ⟨m + 1, by omega, by go_num, HM6.out.congr (fun a b ha _ => fwM_end ha), HB6.out⟩
                  case measure => simp [intOf]; omega
            · obtain rfl : m = x.stops.length := by omega
              go_wp2_with fail
              go_ret
              exact ⟨w.heap.size + 1, rfl, HM5.out, by omega, HB0.out.trans (HB5.out.mono (by omega))⟩
end Go.Proofs.Ytemhcobjhpifpaa
