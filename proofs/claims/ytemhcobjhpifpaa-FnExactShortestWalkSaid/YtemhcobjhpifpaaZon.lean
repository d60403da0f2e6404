/- Slices of anything, read within a zone of blocks. -/
import Derived.Test.YtemhcobjhpifpaaInA
namespace Go.Proofs.Ytemhcobjhpifpaa
open Go.ChangeShapes Go.WideShapes Go.ChangeAt Go.RowKit Go.PlainAid
set_option linter.unusedVariables false

/-- Blocks that may be read; soft: they may be written as well. -/
structure Zone where
  ok : Nat → Prop
  soft : Prop
/-- All blocks below B. -/
def Zone.below (B : Nat) : Zone := ⟨fun b => b < B, False⟩
/-- New blocks. -/
def Zone.new (lo hi : Nat) : Zone := ⟨fun b => lo ≤ b ∧ b < hi, True⟩
/-- The zone without a block (where it matters). -/
def Zone.sub (Z : Zone) (b : Nat) : Zone := ⟨fun c => Z.ok c ∧ (Z.soft → c ≠ b), Z.soft⟩
def Zone.le (Z Z' : Zone) : Prop := (∀ b, Z.ok b → Z'.ok b) ∧ (Z'.soft → Z.soft)
theorem Zone.le_refl (Z : Zone) : Z.le Z := ⟨fun _ h => h, fun h => h⟩
theorem Zone.sub_le {Z Z' : Zone} (h : Z.le Z') (b : Nat) : (Z.sub b).le (Z'.sub b) := ⟨fun c hc => ⟨h.1 c hc.1, fun hs => hc.2 (h.2 hs)⟩, h.2⟩
theorem Zone.new_le {a b a' b' : Nat} (h : a' ≤ a) (h' : b ≤ b') : (Zone.new a b).le (Zone.new a' b') := ⟨fun c hc => ⟨Nat.le_trans h hc.1, Nat.lt_of_lt_of_le hc.2 h'⟩, fun h => h⟩
theorem Zone.new_below {a b B : Nat} (h : b ≤ B) : (Zone.new a b).le (Zone.below B) := ⟨fun c hc => Nat.lt_of_lt_of_le hc.2 h, fun h => h.elim⟩
theorem Zone.below_le {B B' : Nat} (h : B ≤ B') : (Zone.below B).le (Zone.below B') := ⟨fun c hc => Nat.lt_of_lt_of_le hc h, fun h => h⟩

/-- A block is the same in two worlds. -/
def Same (w w' : World) (b : Nat) : Prop := ∀ o, w'.cell? ⟨b, o, none⟩ = w.cell? ⟨b, o, none⟩ ∧ w'.frozen? ⟨b, o, none⟩ = w.frozen? ⟨b, o, none⟩
theorem Same.refl (w : World) (b : Nat) : Same w w b := fun _ => ⟨rfl, rfl⟩
theorem Same.trans {w w' w'' : World} {b : Nat} (h : Same w w' b) (k : Same w' w'' b) : Same w w'' b := fun o => ⟨(k o).1.trans (h o).1, (k o).2.trans (h o).2⟩
theorem Same.of_below {B : Nat} {w w' : World} (h : Below B w w') {b : Nat} (hb : b < B) : Same w w' b := fun o => ⟨h.cell (p := ⟨b, o, none⟩) hb, h.frozen (p := ⟨b, o, none⟩) hb⟩
theorem Same.set (w : World) {p : Addr} {b : Nat} (h : b ≠ p.block) (u : Value) : Same w (w.setCell p u) b := fun o => ⟨World.cell?_setCell_other _ _ _ _ (fun e => h (by rw [e])), World.frozen?_setCell _ _ _ _⟩

/-- How one element reads: world, zone of what hangs on it, block, offset, datum. -/
abbrev Rd (α : Type) := World → Zone → Nat → Nat → α → Prop
class RdOk {α : Type} (E : Rd α) : Prop where
  keep : ∀ {w w' : World} {Z : Zone} {b o : Nat} {x : α}, (∀ c, (Z.sub b).ok c → Same w w' c) → Same w w' b → E w Z b o x → E w' Z b o x
  mono : ∀ {w : World} {Z Z' : Zone} {b o : Nat} {x : α}, Z.le Z' → E w Z b o x → E w Z' b o x

/-- A slice's address and its elements. -/
def Sl {α : Type} [Inhabited α] (E : Rd α) (st : Nat → Nat) (w : World) (Z : Zone) (A : Option Addr) (xs : List α) : Prop :=
  0 < xs.length → ∃ b o, A = some ⟨b, o, none⟩ ∧ Z.ok b ∧ (Z.soft → ∀ j, w.frozen? ⟨b, j, none⟩ = false) ∧ ∀ j, j < xs.length → E w Z b (o + st j) (xs.getD j default)
section
variable {α : Type} [Inhabited α] {E : Rd α} {st : Nat → Nat} {w w' : World} {Z Z' : Zone} {A : Option Addr} {xs : List α}
theorem Sl.get (h : Sl E st w Z A xs) {k : Nat} (hk : k < xs.length) : ∃ b o, A = some ⟨b, o, none⟩ ∧ Z.ok b ∧ E w Z b (o + st k) (xs.getD k default) := by
  obtain ⟨b, o, e, hb, _, hc⟩ := h (by omega)
  exact ⟨b, o, e, hb, hc k hk⟩
theorem Sl.keep [RdOk E] (h : Sl E st w Z A xs) (hs : ∀ c, Z.ok c → Same w w' c) : Sl E st w' Z A xs := fun hn => by
  obtain ⟨b, o, e, hb, hf, hc⟩ := h hn
  exact ⟨b, o, e, hb, fun hz j => (hs b hb j).2.trans (hf hz j), fun j hj => RdOk.keep (fun c hc => hs c hc.1) (hs b hb) (hc j hj)⟩
theorem Sl.mono [RdOk E] (h : Sl E st w Z A xs) (hz : Z.le Z') : Sl E st w Z' A xs := fun hn => by
  obtain ⟨b, o, e, hb, hf, hc⟩ := h hn
  exact ⟨b, o, e, hz.1 b hb, fun hs => hf (hz.2 hs), fun j hj => RdOk.mono hz (hc j hj)⟩
/-- What lies below a block stays in a world that is as the old one below it. -/
theorem Sl.at_below [RdOk E] {B : Nat} (h : Sl E st w (Zone.below B) A xs) (hb : Below B w w') : Sl E st w' (Zone.below B) A xs := h.keep fun _ hc => Same.of_below hb hc
theorem Sl.call [RdOk E] (h : Sl E st w (Zone.below w.heap.size) A xs) (hb : Below w.heap.size w w') : Sl E st w' (Zone.below w'.heap.size) A xs := (h.at_below hb).mono (Zone.below_le hb.size)
theorem Sl.new_call [RdOk E] {lo hi B : Nat} (h : Sl E st w (Zone.new lo hi) A xs) (hb : Below B w w') (hB : hi ≤ B) : Sl E st w' (Zone.new lo hi) A xs := h.keep fun _ hc => Same.of_below hb (Nat.lt_of_lt_of_le hc.2 hB)
theorem Sl.new_set [RdOk E] {lo hi : Nat} (h : Sl E st w (Zone.new lo hi) A xs) {p : Addr} (hp : p.block < lo ∨ hi ≤ p.block) (u : Value) : Sl E st (w.setCell p u) (Zone.new lo hi) A xs := h.keep fun c hc => Same.set w (by have := hc.1; have := hc.2; omega) u
theorem Sl.to_below [RdOk E] {lo hi : Nat} (h : Sl E st w (Zone.new lo hi) A xs) {B : Nat} (hB : hi ≤ B) : Sl E st w (Zone.below B) A xs := h.mono (Zone.new_below hB)
end

/-! ### Integers and strings -/
def eInt : Rd Int := fun w _ b o x => w.cell? ⟨b, o, none⟩ = some (.int .i64 x)
def eStr : Rd ByteArray := fun w _ b o x => w.cell? ⟨b, o, none⟩ = some (.string x)
instance : RdOk eInt := ⟨fun _ hs h => (hs _).1.trans h, fun _ h => h⟩
instance : RdOk eStr := ⟨fun _ hs h => (hs _).1.trans h, fun _ h => h⟩
abbrev IntsIn (w : World) (Z : Zone) (A : Option Addr) (xs : List Int) : Prop := Sl eInt (fun j => j) w Z A xs
abbrev StrsIn (w : World) (Z : Zone) (A : Option Addr) (xs : List ByteArray) : Prop := Sl eStr (fun j => j) w Z A xs
theorem IntsIn.at {w : World} {B : Nat} {A : Option Addr} {xs : List Int} (h : IntsIn w (Zone.below B) A xs) : IntsAt w B A xs := fun hn => by
  obtain ⟨b, o, e, hb, _, hc⟩ := h hn
  exact ⟨b, o, e, hb, hc⟩
theorem IntsAt.in {w : World} {B : Nat} {A : Option Addr} {xs : List Int} (h : IntsAt w B A xs) : IntsIn w (Zone.below B) A xs := fun hn => by
  obtain ⟨b, o, e, hb, hc⟩ := h hn
  exact ⟨b, o, e, hb, fun h => h.elim, hc⟩
/-- The k-th string. -/
def nthS (xs : List ByteArray) (k : Nat) : ByteArray := xs.getD k default

/-- Sums of sizes. -/
def upto (f : Nat → Nat) : Nat → Nat
  | 0 => 0
  | k + 1 => upto f k + f k
theorem upto_le (f : Nat → Nat) {k n : Nat} (h : k ≤ n) : upto f k ≤ upto f n := by
  induction n with
  | zero => simp at h; subst h; exact Nat.le_refl _
  | succ n ih =>
    rcases Nat.lt_or_ge n k with h1 | h1
    · obtain rfl : k = n + 1 := by omega
      exact Nat.le_refl _
    · exact Nat.le_trans (ih h1) (Nat.le_add_right _ _)
theorem le_upto (f : Nat → Nat) {k n : Nat} (h : k < n) : f k ≤ upto f n := Nat.le_trans (Nat.le_add_left _ (upto f k)) (upto_le f (k := k + 1) h)
theorem szI_add (a b : Nat) (left : Int) : szI (a + b) left = if szI a left < 0 then -1 else szI b (szI a left) := by
  unfold szI
  split <;> split <;> (try split) <;> omega

/-! ### Copies and comparisons of lists of strings -/
/-- Size of a list of strings. -/
def szSs (xs : List ByteArray) : Nat := xs.length + upto (fun j => (nthS xs j).size) xs.length

/-- A slice in new memory. -/
def NewSl {α : Type} [Inhabited α] (E : Rd α) (st : Nat → Nat) (xs : List α) (w : World) (e : Ending) (w' : World) : Prop :=
  ∃ g, e = .returned (.slice (some ⟨g, 0, none⟩) xs.length xs.length) ∧ w.heap.size ≤ g ∧ g < w'.heap.size ∧ Sl E st w' (Zone.new w.heap.size w'.heap.size) (some ⟨g, 0, none⟩) xs ∧ Below w.heap.size w w'

theorem Try.infoS : (Try.prog.info? 9).map (fun i => (i.zero, i.size, i.bytes)) = some (some (.string ByteArray.empty), 1, 16) := by kernel_rfl

set_option maxHeartbeats 400000 in
theorem toIntS_new (A : Option Addr) (c : Nat) (xs : List Int) (w : World) (h : IntsIn w (Zone.below w.heap.size) A xs) (hn : xs.length ≤ 1048576) :
    Calls Try.prog 50 #[.slice A xs.length c] w (NewSl eInt (fun j => j) xs w) := by
  obtain ⟨i0, hi, hz0, hz1, hz2⟩ := info_parts Try.infoI
  have hmk := fun W => run_make_n (P := Try.prog) 29 3 i0 _ Try.underlying29 hi hz0 xs.length 1 8 hz1 hz2 (by omega) (by omega) W
  have HX := Lib.hid h
  clear h
  go_enter Try.func50, Try.ntmps50
  go_wp2
  go_loopw [4] (fun i wr => ∃ k : Nat, k ≤ xs.length ∧ i = .int .i64 k ∧ Fill wr w.heap.size xs.length k (fun j => .int .i64 (nth xs j)) ∧ Below w.heap.size w wr) (fun i _ => xs.length - (intOf i).toNat)
  case atStart => exact ⟨0, Nat.zero_le _, rfl, Fill.made _ _ _ _ _, (Below.refl _ _).alloc (Nat.le_refl _) _⟩
  case round =>
    obtain ⟨k, hk, rfl, hf, hb⟩ := hrel
    have HF := Lib.hid hf
    have HB := Lib.hid hb
    by_cases hlt : k < xs.length
    · obtain ⟨b, o, rfl, hbl, hc⟩ := (HX.out.at.below hb).get hlt
      obtain ⟨v, hv⟩ := hf.there k (Nat.le_refl _) hlt
      have hfr := hf.free k
      clear hf hb
      go_wp2
      go_roundw
      case rel => exact ⟨k + 1, by omega, by go_num, HF.out.step hlt, HB.out.setCell (Nat.le_refl _) _⟩
      case measure => simp [intOf]; omega
    · obtain rfl : k = xs.length := by omega
      clear hf hb
      go_wp2
      go_ret
      exact ⟨_, rfl, Nat.le_refl _, HF.out.lt, fun hn => ⟨_, 0, rfl, ⟨Nat.le_refl _, HF.out.lt⟩, fun _ => HF.out.free, fun j hj => by rw [Nat.zero_add]; exact HF.out.done j hj⟩, HB.out⟩

set_option maxHeartbeats 400000 in
theorem toStringS_new (A : Option Addr) (c : Nat) (xs : List ByteArray) (w : World) (h : StrsIn w (Zone.below w.heap.size) A xs) (hn : xs.length ≤ 1048576) :
    Calls Try.prog 22 #[.slice A xs.length c] w (NewSl eStr (fun j => j) xs w) := by
  obtain ⟨i0, hi, hz0, hz1, hz2⟩ := info_parts Try.infoS
  have hmk := fun W => run_make_n (P := Try.prog) 22 9 i0 _ Try.underlying22 hi hz0 xs.length 1 16 hz1 hz2 (by omega) (by omega) W
  have HX := Lib.hid h
  clear h
  go_enter Try.func22, Try.ntmps22
  go_wp2
  go_loopw [4] (fun i wr => ∃ k : Nat, k ≤ xs.length ∧ i = .int .i64 k ∧ Fill wr w.heap.size xs.length k (fun j => .string (nthS xs j)) ∧ Below w.heap.size w wr) (fun i _ => xs.length - (intOf i).toNat)
  case atStart => exact ⟨0, Nat.zero_le _, rfl, Fill.made _ _ _ _ _, (Below.refl _ _).alloc (Nat.le_refl _) _⟩
  case round =>
    obtain ⟨k, hk, rfl, hf, hb⟩ := hrel
    have HF := Lib.hid hf
    have HB := Lib.hid hb
    by_cases hlt : k < xs.length
    · obtain ⟨b, o, rfl, hbl, hc⟩ := (HX.out.at_below hb).get hlt
      have hc' : wr.cell? ⟨b, o + k, none⟩ = some (.string (nthS xs k)) := hc
      obtain ⟨v, hv⟩ := hf.there k (Nat.le_refl _) hlt
      have hfr := hf.free k
      clear hf hb hc
      go_wp2
      go_roundw
      case rel => exact ⟨k + 1, by omega, by go_num, HF.out.step hlt, HB.out.setCell (Nat.le_refl _) _⟩
      case measure => simp [intOf]; omega
    · obtain rfl : k = xs.length := by omega
      clear hf hb
      go_wp2
      go_ret
      exact ⟨_, rfl, Nat.le_refl _, HF.out.lt, fun hn => ⟨_, 0, rfl, ⟨Nat.le_refl _, HF.out.lt⟩, fun _ => HF.out.free, fun j hj => by rw [Nat.zero_add]; exact HF.out.done j hj⟩, HB.out⟩

set_option maxHeartbeats 400000 in
theorem eqStringS_same (A A' : Option Addr) (c c' : Nat) (xs : List ByteArray) (w : World) (Z Z' : Zone) (h : StrsIn w Z A xs) (h' : StrsIn w Z' A' xs) (hn : xs.length ≤ 1048576) :
    Calls Try.prog 30 #[.slice A xs.length c, .slice A' xs.length c'] w fun e w' => e = .returned (.bool true) ∧ ∃ q, w' = w.drewN q := by
  have HX := Lib.hid h
  have HY := Lib.hid h'
  clear h h'
  go_enter Try.func30, Try.ntmps30
  go_wp2
  go_loopw [5] (fun i wr => ∃ k : Nat, k ≤ xs.length ∧ i = .int .i64 k ∧ ∃ q, wr = w.drewN q) (fun i _ => xs.length - (intOf i).toNat)
  case atStart => exact ⟨0, Nat.zero_le _, rfl, 0, rfl⟩
  case round =>
    obtain ⟨k, hk, rfl, q, rfl⟩ := hrel
    by_cases hlt : k < xs.length
    · obtain ⟨b, o, rfl, hbl, hc0⟩ := HX.out.get hlt
      obtain ⟨b', o', rfl, hbl', hc0'⟩ := HY.out.get hlt
      have hc : w.cell? ⟨b, o + k, none⟩ = some (.string (nthS xs k)) := hc0
      have hc' : w.cell? ⟨b', o' + k, none⟩ = some (.string (nthS xs k)) := hc0'
      clear hc0 hc0'
      have hi1 : (k : Int) < (xs.length : Int) := by omega
      go_wp2
      go_quiet (fail)
      go_wp2
      go_roundw
      case rel => exact ⟨k + 1, by omega, by go_num, _, rfl⟩
      case measure => simp [intOf]; omega
    · obtain rfl : k = xs.length := by omega
      go_wp2
      go_ret
      exact ⟨rfl, q, rfl⟩

set_option maxHeartbeats 400000 in
theorem szStringS_any (A : Option Addr) (c : Nat) (xs : List ByteArray) (left : Int) (w : World) (Z : Zone) (h : StrsIn w Z A xs) (h0 : 0 ≤ left) (h1 : left ≤ 1048576) (hn : xs.length ≤ 9223372036854775807) (hns : ∀ k, k < xs.length → (nthS xs k).size ≤ 9223372036854775807) :
    Calls Try.prog 17 #[.slice A xs.length c, .int .i64 left] w fun e w' => e = .returned (.int .i64 (szI (szSs xs) left)) ∧ w = w' := by
  have HX := Lib.hid h
  clear h
  by_cases hs : left - xs.length < 0
  · have H := Lib.hid (show szI (szSs xs) left = -1 by unfold szI szSs; rw [if_pos (by omega)])
    go_enter Try.func17, Try.ntmps17
    go_wp2
    go_ret
    exact ⟨retI H.out.symm, rfl⟩
  · go_enter Try.func17, Try.ntmps17
    go_wp2
    go_loopw [1, 5] (fun l i wr => ∃ k : Nat, k ≤ xs.length ∧ i = .int .i64 k ∧ l = .int .i64 (left - xs.length - upto (fun j => (nthS xs j).size) k) ∧ 0 ≤ left - xs.length - upto (fun j => (nthS xs j).size) k ∧ w = wr) (fun l i _ => xs.length - (intOf i).toNat)
    case atStart => exact ⟨0, Nat.zero_le _, rfl, by simp [upto], by simp [upto]; omega, rfl⟩
    case round =>
      obtain ⟨k, hk, rfl, rfl, hl, rfl⟩ := hrel
      by_cases hlt : k < xs.length
      · obtain ⟨b, o, rfl, hbl, hc0⟩ := HX.out.get hlt
        have hc : w.cell? ⟨b, o + k, none⟩ = some (.string (nthS xs k)) := hc0
        clear hc0
        have hu : upto (fun j => (nthS xs j).size) (k + 1) = upto (fun j => (nthS xs j).size) k + (nthS xs k).size := rfl
        have hm := hns k hlt
        by_cases hz : left - xs.length - upto (fun j => (nthS xs j).size) k - (nthS xs k).size < 0
        · have hle := upto_le (fun j => (nthS xs j).size) (k := k + 1) (n := xs.length) hlt
          have H := Lib.hid (show szI (szSs xs) left = -1 by unfold szI szSs; rw [if_pos (by omega)])
          clear hle hu
          go_wp2
          go_ret
          exact ⟨retI H.out.symm, rfl⟩
        · have HU := Lib.hid hu
          clear hu
          go_wp2
          go_roundw
          case rel => exact ⟨k + 1, by omega, by go_num, by rw [HU.out]; congr 1; omega, by rw [HU.out]; omega, trivial⟩
          case measure => simp [intOf]; omega
      · obtain rfl : k = xs.length := by omega
        have H := Lib.hid (show szI (szSs xs) left = left - xs.length - upto (fun j => (nthS xs j).size) xs.length by unfold szI szSs; rw [if_neg (by omega)]; omega)
        go_wp2
        go_ret
        exact ⟨retI H.out.symm, rfl⟩
end Go.Proofs.Ytemhcobjhpifpaa
