/- The trips of a line, sorted by their starts. -/
import Derived.Test.YtdiffepokiabkaaSrt
import Derived.Test.YtdiffepokiabkaaOwr
import Derived.Test.YtdiffepokiabkaaIns
import Derived.Test.YtdiffepokiabkaaTrr
import Derived.Test.YtdiffepokiabkaaShelf
import Derived.Shelf.SlSortCmp.NoneTotal
namespace Go.Proofs.Ytdiffepokiabkaa
open Go.ChangeShapes Go.WideShapes Go.ChangeAt Go.RowKit Go.PlainAid
open Go.Sort (HoldsK SWO PermIn SortedIn grow)
set_option linter.unusedVariables false
set_option linter.unusedSimpArgs false

abbrev OwnT (w : World) (B : Nat) (v : Value) (xs : List I3) : Prop := OwnE 77 3 encI3 w B v xs
theorem encI3_cell (y : I3) : ∀ u ∈ encI3 y, u.oneCell' = true := fun u hu => by
  simp [encI3] at hu
  rcases hu with rfl | rfl | rfl <;> rfl
theorem wp_appT {ops : Array Oper} {rest : List Oper} {o : Oper} {a : Act} {Q : Exit → Act → World → Prop} (hgd : o.guard = none) (s x : Operand)
    (ho : o.op = .call { callee := .builtin .append, args := #[s, x], argTypes := #[43, 43] })
    (B : Nat) (v : Value) (xs : List I3) (y : I3) (w : World) (hown : OwnT w B v xs) (hs : a.eval s = v) (n : Nat) (hx : a.eval x = .slice (some ⟨n, 0, none⟩) 1 1) (hnw : n = w.heap.size) (hl : xs.length ≤ 16777216) (hB : B ≤ w.heap.size)
    (h : ∀ v' w', OwnT w' B v' (xs ++ [y]) → Below B w w' → wpList Try.prog ops Q rest (a.put o.dst v') w') : wpList Try.prog ops Q (o :: rest) a (w.alloc (.cells #[.int .i64 y.a, .int .i64 y.b, .int .i64 y.c] 77)) := by
  obtain ⟨i0, hi, hz0, hz1, hz2⟩ := info_parts Try.infoTrip
  exact wp_app hgd s x 43 ho 24 Try.underlying43 hi hz0 hz1 hz2 rfl (by omega) (fun _ => rfl) encI3_cell (by omega) B v xs y _ w rfl hs n hx hnw hown hl hB h
/-- How trips are compared. -/
def tpC (x y : I3) : Int := Lib.compareInt x.c y.c
theorem tpC_lt (x y : I3) : ltOf tpC x y = decide (x.c < y.c) := by
  unfold ltOf tpC Lib.compareInt
  by_cases h1 : x.c < y.c
  · simp [h1]
  · by_cases h2 : y.c < x.c <;> simp [h1, h2]
theorem tpC_swo : SWO (ltOf tpC) where
  irrefl x := by rw [tpC_lt]; simp
  trans x y z h1 h2 := by rw [tpC_lt] at *; simp at *; omega
  ntrans x y z h1 h2 := by rw [tpC_lt] at *; simp at *; omega
set_option maxHeartbeats 1000000 in
theorem tpCmp_any (x y : I3) (W : World) : Calls Try.prog 70 #[.agg #[.int .i64 x.a, .int .i64 x.b, .int .i64 x.c], .agg #[.int .i64 y.a, .int .i64 y.b, .int .i64 y.c]] W fun e w' => e = .returned (.int .i64 (tpC x y)) ∧ ∃ q os', w' = grow (W.drewN q) os' := by
  have hcon := fun W' => AnyG.cmp_Compare_int Try.laysCmpInt x.c y.c W'
  change ∀ W', Calls Try.prog 71 _ _ _ at hcon
  unfold tpC
  generalize Lib.compareInt x.c y.c = r at hcon ⊢
  go_enter Try.func70, Try.ntmps70
  go_wp2_with (go_at_call 71; refine (hcon _).mono ?_; rintro e w' ⟨rfl, rfl⟩)
  go_ret
  exact ⟨rfl, 0, _, by rw [Go.Sort.alloc_eq_grow, Go.Sort.alloc_eq_grow, Go.Sort.grow_grow]; rfl⟩
theorem tpCmp_lays (blk off size : Nat) (w : World) : CmpLays Try.prog 70 #[] encI3 3 tpC blk off size w := fun _ _ _ _ x y => tpCmp_any x y _

set_option maxRecDepth 100000 in
set_option maxHeartbeats 2000000 in
theorem sortTrips_any (B : Nat) (v : Value) (xs : List I3) (w : World) (h : OwnT w B v xs) (hB : B ≤ w.heap.size) (hn : xs.length ≤ 12) :
    Calls Try.prog 69 #[v, .func (.func 70) #[] #[]] w fun e w' => e = .returned (.tuple #[]) ∧ ∃ ys A c, v = .slice A ys.length c ∧ ys.Perm xs ∧ ys.Pairwise (fun x y => x.c ≤ y.c) ∧ I3sIn w' (Zone.new B w'.heap.size) A ys ∧ Below B w w' := by
  have hni : (xs.length : Int) ≤ 12 := by omega
  by_cases h0 : 0 < xs.length
  · obtain ⟨g, o, cap, rfl, hBg, hlt, hc1, hc2, hH, hf⟩ := h.holds (fun _ => rfl) h0
    have eg : ∀ args w, (callFunc 70 args).run Try.prog w = .ok (.enter 70 args) w := enters_of Try.func70 (by kernel_rfl) rfl
    have hcon := AnyQ.insertionSortCmpFunc Try.laysInsertionTrip 3 Try.isAgg77 Try.sizeOf77 encI3 (fun _ => rfl) encI3_cell tpC 70 #[] g o cap 0 xs.length xs.toArray w eg (tpCmp_lays g o _ w) hH hlt (Nat.zero_le _) (by simp) (by simp; omega)
    change Calls Try.prog 100 _ _ _ at hcon
    have e0 : xs.toArray.size = xs.length := by simp
    rw [e0] at hcon
    obtain ⟨hp, hs⟩ := Go.Sort.insertionSort_holds (lt := ltOf tpC) tpC_swo xs.toArray 0 xs.length (Nat.zero_le _) (by simp)
    generalize hd : Go.Sort.insertionSort (ltOf tpC) xs.toArray 0 xs.length = d' at *
    have hp' : PermIn 0 xs.toArray.size xs.toArray d' := by rw [e0]; exact hp
    have hperm := permIn_perm hp'
    have hsz : d'.size = xs.length := by rw [hp.1]; simp
    have hll : d'.toList.length = xs.length := by simpa using hsz
    have hasc : d'.toList.Pairwise (fun x y => x.c ≤ y.c) := by
      rw [List.pairwise_iff_getElem]
      intro i j hi hj hij
      have h1 := sortedIn_at hs (i := i) (j := j) hij (by omega) (by omega)
      rw [tpC_lt] at h1
      have h2 := of_decide_eq_false h1
      rw [List.getD_eq_getElem?_getD, List.getElem?_eq_getElem hj, List.getD_eq_getElem?_getD, List.getElem?_eq_getElem hi] at h2
      have h3 : ¬ d'.toList[j].c < d'.toList[i].c := h2
      omega
    have hcon2 : Calls Try.prog 100 #[.slice (some ⟨g, o, none⟩) xs.length cap, .int .i64 0, .int .i64 xs.length, .func (.func 70) #[] #[]] w fun e w' => e = .returned (.tuple #[]) ∧ ∃ n os, w' = sortWorldK encI3 3 w g o n d' os := hcon
    have HCON := Lib.hid hcon2
    have HEND : Hid (∀ n os, I3sIn (sortWorldK encI3 3 w g o n d' os) (Zone.new B (sortWorldK encI3 3 w g o n d' os).heap.size) (some ⟨g, o, none⟩) d'.toList ∧ Below B w (sortWorldK encI3 3 w g o n d' os)) := Lib.hid (fun n os =>
      ⟨HoldsK.sl (k := 3) (enc := encI3) (holdsK_sortWorldK_c encI3 3 w g o xs.toArray d' n os hH hlt (by rw [hsz]; simp)) ⟨hBg, Nat.lt_of_lt_of_le hlt (sw_size w g o n d' os)⟩ (fun j => by rw [sw_frozen _ _ _ _ _ _ _ hlt]; exact hf j) (fun j => rfl) (fun _ => rfl) (fun w Z b o y hc => ⟨hc 0 (by omega), hc 1 (by omega), hc 2 (by omega)⟩), sw_below w g o n d' os hBg hB⟩)
    have HPR := Lib.hid (And.intro hperm (And.intro hasc hll))
    clear hcon hcon2 hp hs hd hp' hperm hsz hll hasc eg hH hf e0 h
    go_enter Try.func69, Try.ntmps69
    go_wp2_with (first | (go_at_call 100; fail) | go_in)
    have hd1 : ¬ (20 : Int) ≤ xs.length := by omega
    have hd2 : ¬ (20 : Int) < xs.length := by omega
    go_loopw [7, 8] (fun a b wr => a = .int .i64 0 ∧ b = .int .i64 20 ∧ wr = w) (fun _ _ _ => 0)
    case atStart => exact ⟨rfl, rfl, rfl⟩
    case round =>
      obtain ⟨rfl, rfl, rfl⟩ := hrel
      go_wp2_with fail
      refine HCON.out.mono ?_
      rintro e w1 ⟨rfl, n, os, rfl⟩
      obtain ⟨hi, hb⟩ := HEND.out n os
      have HI := Lib.hid hi
      have HB := Lib.hid hb
      clear hi hb HCON HEND
      generalize sortWorldK encI3 3 wr g o n d' os = w1 at *
      go_wp2_with fail
      go_loopw [6, 7, 8, 9] (fun s _ _ _ wz => s = .int .i64 20 ∧ wz = w1) (fun _ _ _ _ _ => 0)
      case atStart => exact ⟨rfl, rfl⟩
      case round =>
        obtain ⟨rfl, rfl⟩ := hrel
        go_wp2_with fail
        go_end0
        exact ⟨rfl, d'.toList, some ⟨g, o, none⟩, cap, by rw [HPR.out.2.2], by simpa using HPR.out.1, HPR.out.2.1, HI.out, HB.out⟩
  · have hx : xs = [] := List.eq_nil_of_length_eq_zero (by omega)
    subst hx
    obtain ⟨A, c, rfl, _, _, _⟩ := h.i3s
    have hcon := AnyF.insertionSortCmpFunc_none Try.laysInsertionTrip A c (.func (.func 70) #[] #[]) w
    have hcon2 : Calls Try.prog 100 #[.slice A 0 c, .int .i64 0, .int .i64 0, .func (.func 70) #[] #[]] w fun e w' => e = .returned (.tuple #[]) ∧ w' = w := hcon
    have HCON := Lib.hid hcon2
    clear hcon hcon2 h
    go_enter Try.func69, Try.ntmps69
    go_wp2_with (first | (go_at_call 100; fail) | go_in)
    go_loopw [7, 8] (fun a b wr => a = .int .i64 0 ∧ b = .int .i64 20 ∧ wr = w) (fun _ _ _ => 0)
    case atStart => exact ⟨rfl, rfl, rfl⟩
    case round =>
      obtain ⟨rfl, rfl, rfl⟩ := hrel
      go_wp2_with fail
      refine HCON.out.mono ?_
      rintro e w1 ⟨rfl, rfl⟩
      go_wp2_with fail
      go_loopw [6, 7, 8, 9] (fun s _ _ _ wz => s = .int .i64 20 ∧ wz = w1) (fun _ _ _ _ _ => 0)
      case atStart => exact ⟨rfl, rfl⟩
      case round =>
        obtain ⟨rfl, rfl⟩ := hrel
        go_wp2_with fail
        go_end0
        exact ⟨rfl, [], A, c, rfl, List.Perm.refl _, List.Pairwise.nil, fun h => by simp at h, Below.refl _ _⟩
end Go.Proofs.Ytdiffepokiabkaa
