/- CloseWalks: contracts. -/
import Derived.Test.YtkbfhcchickkgaaWkt
import Derived.Test.YtkbfhcchickkgaaApx
namespace Go.Proofs.Ytkbfhcchickkgaa
open Go.ChangeShapes Go.WideShapes Go.ChangeAt Go.RowKit Go.PlainAid
set_option linter.unusedVariables false

/-- The walks from a to the stops behind it and below b. -/
def rowW (xs : List I3) (n a : Nat) : Nat → List I3
  | 0 => []
  | b + 1 => rowW xs n a b ++ if a < b ∧ 0 ≤ fw xs n a b then [⟨(a : Int), (b : Int), fw xs n a b⟩] else []
/-- All walks from the stops below a. -/
def allW (xs : List I3) (n : Nat) : Nat → List I3
  | 0 => []
  | a + 1 => allW xs n a ++ rowW xs n a n
theorem rowW_none {xs : List I3} {n a : Nat} : ∀ b, b ≤ a + 1 → rowW xs n a b = [] := by
  intro b
  induction b with
  | zero => intro _; rfl
  | succ b ih => intro h; simp only [rowW]; rw [ih (by omega), if_neg (by omega)]; rfl
theorem rowW_yes {xs : List I3} {n a b : Nat} (h : a < b) (h' : 0 ≤ fw xs n a b) : rowW xs n a (b + 1) = rowW xs n a b ++ [⟨(a : Int), (b : Int), fw xs n a b⟩] := by simp only [rowW]; rw [if_pos ⟨h, h'⟩]
theorem rowW_no {xs : List I3} {n a b : Nat} (h' : ¬ 0 ≤ fw xs n a b) : rowW xs n a (b + 1) = rowW xs n a b := by simp only [rowW]; rw [if_neg (fun g => h' g.2), List.append_nil]
theorem rowW_len (xs : List I3) (n a b : Nat) : (rowW xs n a b).length ≤ b := by
  induction b with
  | zero => simp [rowW]
  | succ b ih =>
    simp only [rowW, List.length_append]
    split <;> simp <;> omega
theorem allW_len (xs : List I3) (n a : Nat) : (allW xs n a).length ≤ a * n := by
  induction a with
  | zero => simp [allW]
  | succ a ih =>
    simp only [allW, List.length_append]
    have := rowW_len xs n a n
    rw [Nat.succ_mul]
    omega
theorem wayN_le {n : Nat} {xs : List I3} (h : Wks n xs) {s : Nat} : ∀ k t d, wayN n xs s k t d → (k : Int) ≤ d := by
  intro k
  induction k with
  | zero => rintro t d ⟨_, rfl⟩; omega
  | succ k ih =>
    rintro t d ⟨u, m, _, h1, q, hq, _, hm⟩
    have := ih u _ h1
    have o := h.ok q hq
    unfold WkOk at o
    omega
theorem fw_pos {n : Nat} {xs : List I3} (h : Wks n xs) {a b : Nat} (ha : a < n) (hab : a ≠ b) : 0 < fw xs n a b ↔ 0 ≤ fw xs n a b := by
  refine ⟨fun g => by omega, fun g => ?_⟩
  obtain ⟨k, hk⟩ := fw_way h n (Nat.le_refl _) ha g
  have := wayN_le h k b _ hk
  cases k with
  | zero => exact absurd hk.1 hab
  | succ k => omega

/-- What CloseWalks returns. -/
def cwB (x : NetD) (xs : List I3) : Bool := wvB x xs && walksB x.stops.length (allW xs x.stops.length x.stops.length)
def cwI (x : NetD) (xs : List I3) : List I3 := if cwB x xs = true then allW xs x.stops.length x.stops.length else []
theorem cwB_no {x : NetD} {xs : List I3} (h : wvB x xs = false ∨ walksB x.stops.length (allW xs x.stops.length x.stops.length) = false) : cwB x xs = false := by
  unfold cwB
  rcases h with h | h <;> simp [h]
theorem cwB_yes {x : NetD} {xs : List I3} (h : wvB x xs = true) (h' : walksB x.stops.length (allW xs x.stops.length x.stops.length) = true) : cwB x xs = true := by
  unfold cwB
  simp [h, h']
theorem cwI_no {x : NetD} {xs : List I3} (h : cwB x xs = false) : cwI x xs = [] := by unfold cwI; rw [h]; rfl
theorem cwI_yes {x : NetD} {xs : List I3} (h : cwB x xs = true) : cwI x xs = allW xs x.stops.length x.stops.length := by unfold cwI; rw [h]; rfl
theorem cwI_len (x : NetD) (xs : List I3) : (cwI x xs).length ≤ 1048576 := by
  unfold cwI
  split
  · rename_i h
    unfold cwB at h
    simp at h
    have := (walksB_ok h.2).1
    omega
  · simp

/-- A slice of walks in new memory, and a boolean. -/
def RetWs (xs : List I3) (b : Bool) (w : World) (e : Ending) (w' : World) : Prop :=
  ∃ A c, e = .returned (.tuple #[.slice A xs.length c, .bool b]) ∧ I3sIn w' (Zone.new w.heap.size w'.heap.size) A xs ∧ Below w.heap.size w w'
theorem retWnil {w0 w : World} {xs : List I3} {b : Bool} (h : xs = []) (hb : Below w0.heap.size w0 w) : RetWs xs b w0 (.returned (.tuple #[.slice none 0 0, .bool b])) w := by
  subst h
  exact ⟨none, 0, rfl, fun h => absurd h (by simp), hb⟩
abbrev OwnW (w : World) (B : Nat) (v : Value) (xs : List I3) : Prop := OwnE 93 3 encI3 w B v xs
abbrev OwnWX (w : World) (B X : Nat) (v : Value) (xs : List I3) : Prop := OwnX 93 3 encI3 w B X v xs
theorem encI3_cell (y : I3) : ∀ u ∈ encI3 y, u.oneCell' = true := fun u hu => by simp [encI3] at hu; rcases hu with rfl | rfl | rfl <;> rfl
theorem wp_appW {ops : Array Oper} {rest : List Oper} {o : Oper} {a : Act} {Q : Exit → Act → World → Prop} (hgd : o.guard = none) (s x : Operand)
    (ho : o.op = .call { callee := .builtin .append, args := #[s, x], argTypes := #[36, 36] })
    (B X : Nat) (v : Value) (xs : List I3) (y : I3) (w : World) (hown : OwnWX w B X v xs) (hs : a.eval s = v) (n : Nat) (hx : a.eval x = .slice (some ⟨n, 0, none⟩) 1 1) (hnw : n = w.heap.size) (hl : xs.length ≤ 16777216) (hB : B ≤ w.heap.size) (hX : X < w.heap.size)
    (h : ∀ v' w', OwnWX w' B X v' (xs ++ [y]) → Below B w w' → Same w w' X → w.heap.size ≤ w'.heap.size → wpList Try.prog ops Q rest (a.put o.dst v') w') : wpList Try.prog ops Q (o :: rest) a (w.alloc (.cells #[.int .i64 y.a, .int .i64 y.b, .int .i64 y.c] 93)) := by
  obtain ⟨i0, hi, hz0, hz1, hz2⟩ := info_parts Try.infoWalk
  exact wp_appX hgd s x 36 ho 24 Try.underlying36 hi hz0 hz1 hz2 rfl (by omega) (fun _ => rfl) encI3_cell (by omega) B X v xs y _ w rfl hs n hx hnw hown hl hB hX h

theorem retLw {A : Option Addr} {n m c : Nat} {b : Bool} (h : n = m) : Ending.returned (.tuple #[.slice A n c, .bool b]) = .returned (.tuple #[.slice A m c, .bool b]) := by rw [h]
theorem OwnE.apart' {α : Type} {e : TypeId} {m : Nat} {enc : α → List Value} {w w' : World} {B X : Nat} {v : Value} {xs : List α} (h : OwnE e m enc w' B v xs) (h0 : OwnE e m enc w B v xs) (hX : w.heap.size ≤ X) : OwnX e m enc w' B X v xs := ⟨h, (h0.apart hX).2⟩
set_option maxRecDepth 100000 in
set_option maxHeartbeats 2000000 in
theorem implClose_any (x : NetD) (A L V : Option Addr) (ca cl cv : Nat) (xs : List I3)  (w : World) (hA : StrsIn w (Zone.below w.heap.size) A x.stops) (hL : LinesIn w (Zone.below w.heap.size) L x.lines) (hV : I3sIn w (Zone.below w.heap.size) V xs) (hx : Fits x) (hv : xs.length ≤ 1048576) :
    Calls Try.prog 28 #[.agg #[.slice A x.stops.length ca, .slice L x.lines.length cl], .slice V xs.length cv] w (RetWs (cwI x xs) (cwB x xs) w) := by
  have H0 : Hid (NetBox w (w.alloc (.cells #[.slice A x.stops.length ca, .slice L x.lines.length cl] 34)) w.heap.size x A ca L cl) := Lib.hid (NetBox.box hA hL)
  have HV0 := Lib.hid (hV.call H0.out.bel)
  have hn := hx.stops
  have hm := hx.lines
  clear hA hL hV
  cases g0 : wvB x xs
  · have HG := Lib.hid (cwB_no (.inl g0))
    have H := Lib.hid (cwI_no HG.out)
    go_enter Try.func28, Try.ntmps28
    go_wp2_with fail
    refine (implWv_any x _ _ _ _ _ _ xs _ H0.out.stops H0.out.lines HV0.out hx hv).mono ?_
    rintro e w1 ⟨rfl, hb1⟩
    have H1 := Lib.hid (H0.out.call hb1)
    have HV1 := Lib.hid (HV0.out.call hb1)
    have hz1 := hb1.size
    clear hb1
    (try clear c0 c1)
    obtain ⟨c0, c1⟩ := H1.out.cells
    go_wp2_with fail
    go_ret2
    rw [HG.out]
    exact retWnil H.out H1.out.bel
  have HG0 := Lib.hid g0
  obtain ⟨hnet, hwk⟩ := wvB_ok g0
  have HN := Lib.hid hnet
  have HWK := Lib.hid hwk.wks
  have h28 := inB_iff.1 (netB_ok hnet).stops
  have h2 : 2 ≤ x.stops.length := by omega
  have h8 : x.stops.length ≤ 8 := by omega
  have h0 : 0 < x.stops.length := by omega
  clear hnet hwk h28
  go_enter Try.func28, Try.ntmps28
  go_wp2_with fail
  refine (implWv_any x _ _ _ _ _ _ xs _ H0.out.stops H0.out.lines HV0.out hx hv).mono ?_
  rintro e w1 ⟨rfl, hb1⟩
  have H1 := Lib.hid (H0.out.call hb1)
  have HV1 := Lib.hid (HV0.out.call hb1)
  have hz1 := hb1.size
  clear hb1
  (try clear c0 c1)
  obtain ⟨c0, c1⟩ := H1.out.cells
  go_wp2_with fail
  refine (walkTable_any x _ _ _ _ _ _ xs _ HV1.out h0 h8 hv HWK.out).mono ?_
  rintro e w3 ⟨G, rfl, hm3, hg3, hb3⟩
  have H3 := Lib.hid (H1.out.call hb3)
  have HM := Lib.hid hm3
  have hz3 := hb3.size
  have hGl := hm3.lt
  clear hb3 hm3 c0 c1
  obtain ⟨c0, c1⟩ := H3.out.cells
  go_wp2_with fail
  clear c0 c1
  go_loopw [7, 20] (fun v i wr => ∃ a : Nat, a ≤ x.stops.length ∧ i = .int .i64 a ∧ OwnWX wr w3.heap.size G v (allW xs x.stops.length a) ∧ Below w3.heap.size w3 wr) (fun _ i _ => x.stops.length - (intOf i).toNat)
  case atStart => exact ⟨0, Nat.zero_le _, rfl, ⟨OwnE.nil, by simp [Value.ownBlock]⟩, Below.refl _ _⟩
  case round =>
    obtain ⟨a, ha, rfl, ho, hb⟩ := hrel
    have HO := Lib.hid ho
    have HB := Lib.hid hb
    have hz := hb.size
    have hal := allW_len xs x.stops.length a
    have ham : a * x.stops.length ≤ 8 * 8 := Nat.mul_le_mul (by omega) h8
    have HN4 := Lib.hid (H3.out.call hb)
    clear ho hb
    by_cases hlt : a < x.stops.length
    · have hai : (a : Int) < (x.stops.length : Int) := by omega
      have HR0 : Hid (rowW xs x.stops.length a (a + 1) = []) := Lib.hid (rowW_none _ (Nat.le_refl _))
      obtain ⟨c0, c1⟩ := HN4.out.cells
      go_wp2_with fail
      clear c0 c1
      obtain ⟨wo, rfl⟩ : ∃ wo : World, wo = wr := ⟨_, rfl⟩
      have HOX := HO
      have HBX := HB
      go_loopw [7, 9] (fun v i wi => ∃ b : Nat, a + 1 ≤ b ∧ b ≤ x.stops.length ∧ i = .int .i64 b ∧ OwnWX wi w3.heap.size G v (allW xs x.stops.length a ++ rowW xs x.stops.length a b) ∧ Below w3.heap.size w3 wi) (fun _ i _ => x.stops.length - (intOf i).toNat)
      case atStart => exact ⟨a + 1, by omega, by omega, by go_num, by rw [HR0.out, List.append_nil]; exact HOX.out, HBX.out⟩
      case round =>
        obtain ⟨b, hab, hbn, rfl, ho, hb⟩ := hrel
        have HO6 := Lib.hid ho
        have HB6 := Lib.hid hb
        have hz6 := hb.size
        have HN6 := Lib.hid (H3.out.call hb)
        have hrl := rowW_len xs x.stops.length a b
        have hll : (allW xs x.stops.length a ++ rowW xs x.stops.length a b).length ≤ 16777216 := by rw [List.length_append]; omega
        obtain ⟨c0, c1⟩ := HN6.out.cells
        by_cases hbl : b < x.stops.length
        · have hbi : (b : Int) < (x.stops.length : Int) := by omega
          have hm6 := HM.out.call hb
          have d0 := hm6.hd a hlt
          have d1 := hm6.at' hlt hbl
          obtain ⟨p, hp⟩ : ∃ p, p = fw xs x.stops.length a b := ⟨_, rfl⟩
          rw [← hp] at d1
          have HP := Lib.hid hp
          clear ho hb hm6 hp
          by_cases t : 0 ≤ p
          · have HF := Lib.hid (rowW_yes (xs := xs) (n := x.stops.length) (a := a) (b := b) (by omega) (by rw [← HP.out]; exact t))
            go_wp2_with (at_builtin; refine wp_appW rfl _ _ rfl w3.heap.size G _ _ ⟨(a : Int), (b : Int), p⟩ _ HO6.out rfl _ rfl (by simp) hll (by omega) (by omega) ?_; intro v' w' ho' hb' hs' hz'; have HO' := Lib.hid ho'; have HB' := Lib.hid (HB6.out.trans hb'); clear ho' hb' hs')
            go_roundw
            case rel => exact ⟨b + 1, by omega, by omega, by go_num, by rw [HF.out, ← List.append_assoc, ← HP.out]; exact HO'.out, HB'.out⟩
            case measure => simp [intOf]; omega
          · have HF := Lib.hid (rowW_no (xs := xs) (n := x.stops.length) (a := a) (b := b) (by rw [← HP.out]; exact t))
            go_wp2_with fail
            go_roundw
            case rel => exact ⟨b + 1, by omega, by omega, by go_num, by rw [HF.out]; exact HO6.out, HB6.out⟩
            case measure => simp [intOf]; omega
        · obtain rfl : b = x.stops.length := by omega
          have HAL : Hid (allW xs x.stops.length (a + 1) = allW xs x.stops.length a ++ rowW xs x.stops.length a x.stops.length) := Lib.hid rfl
          clear ho hb
          go_wp2_with fail
          go_roundw
          case rel => exact ⟨a + 1, by omega, by go_num, by rw [HAL.out]; exact HO6.out, HB6.out⟩
          case measure => simp [intOf]; omega
    · obtain rfl : a = x.stops.length := by omega
      have hlen2 : (allW xs x.stops.length x.stops.length).length ≤ 1048576 := by omega
      obtain ⟨A9, c9, rfl, h91, h92, h93⟩ := OwnE.i3s HO.out.1
      have HI9 := Lib.hid h93
      clear h93
      obtain ⟨c0, c1⟩ := HN4.out.cells
      cases hcl : walksB x.stops.length (allW xs x.stops.length x.stops.length)
      · have HG := Lib.hid (cwB_no (x := x) (xs := xs) (.inr hcl))
        have H := Lib.hid (cwI_no HG.out)
        have HCL : Hid (walksB x.stops.length (allW xs x.stops.length x.stops.length) = false) := Lib.hid (hcl)
        clear hcl
        go_wp2_with fail
        refine (areWalks_any x _ _ _ _ _ _ _ _ (HI9.out.to_below (Nat.le_refl _)) hn hlen2).mono ?_
        rintro e w7 ⟨rfl, hb7⟩
        have HB7 := Lib.hid (HN4.out.call hb7).bel
        clear hb7
        rw [HCL.out]
        go_wp2_with fail
        go_ret2
        rw [HG.out]
        exact retWnil H.out HB7.out
      · have HG := Lib.hid (cwB_yes HG0.out hcl)
        have H := Lib.hid (cwI_yes HG.out)
        have HCL : Hid (walksB x.stops.length (allW xs x.stops.length x.stops.length) = true) := Lib.hid (hcl)
        clear hcl
        go_wp2_with fail
        refine (areWalks_any x _ _ _ _ _ _ _ _ (HI9.out.to_below (Nat.le_refl _)) hn hlen2).mono ?_
        rintro e w7 ⟨rfl, hb7⟩
        have HB7 := Lib.hid (HN4.out.call hb7).bel
        have HI7 := Lib.hid ((HI9.out.new_call hb7 (Nat.le_refl _)).mono (Zone.new_le (H3.out.bel.size) hb7.size))
        clear hb7
        rw [HCL.out]
        go_wp2_with fail
        go_ret2
        rw [HG.out]
        exact ⟨A9, c9, retLw (by rw [H.out]), by rw [H.out]; exact HI7.out, HB7.out⟩

set_option maxRecDepth 100000 in
set_option maxHeartbeats 2000000 in
theorem specClose_any (x : NetD) (A L V : Option Addr) (ca cl cv : Nat) (xs : List I3)  (w : World) (hA : StrsIn w (Zone.below w.heap.size) A x.stops) (hL : LinesIn w (Zone.below w.heap.size) L x.lines) (hV : I3sIn w (Zone.below w.heap.size) V xs) (hx : Fits x) (hv : xs.length ≤ 1048576) :
    Calls Try.prog 27 #[.agg #[.slice A x.stops.length ca, .slice L x.lines.length cl], .slice V xs.length cv] w (RetWs (cwI x xs) (cwB x xs) w) := by
  have H0 : Hid (NetBox w (w.alloc (.cells #[.slice A x.stops.length ca, .slice L x.lines.length cl] 34)) w.heap.size x A ca L cl) := Lib.hid (NetBox.box hA hL)
  have HV0 := Lib.hid (hV.call H0.out.bel)
  have hn := hx.stops
  have hm := hx.lines
  have hV0 := hV
  clear hA hL hV
  have H1 : Hid (NetBox w ((w.alloc (.cells #[.slice A x.stops.length ca, .slice L x.lines.length cl] 34)).alloc (.cells #[] 93)) w.heap.size x A ca L cl) := Lib.hid (H0.out.call (by go_grown))
  have HV1 : Hid (I3sIn ((w.alloc (.cells #[.slice A x.stops.length ca, .slice L x.lines.length cl] 34)).alloc (.cells #[] 93)) (Zone.below ((w.alloc (.cells #[.slice A x.stops.length ca, .slice L x.lines.length cl] 34)).alloc (.cells #[] 93)).heap.size) V xs) := Lib.hid (HV0.out.call (by go_grown))
  have HO1 : Hid (OwnW ((w.alloc (.cells #[.slice A x.stops.length ca, .slice L x.lines.length cl] 34)).alloc (.cells #[] 93)) (w.heap.size + 1) (.slice (some ⟨w.heap.size + 1, 0, none⟩) 0 0) []) := Lib.hid (by simpa using OwnE.empty (e := 93) (m := 3) (enc := encI3) (w := w.alloc (.cells #[.slice A x.stops.length ca, .slice L x.lines.length cl] 34)) (Nat.le_refl _))
  have hw1 : w.heap.size + 1 < ((w.alloc (.cells #[.slice A x.stops.length ca, .slice L x.lines.length cl] 34)).alloc (.cells #[] 93)).heap.size := by simp
  clear H0 HV0
  cases g0 : wvB x xs
  · have HG := Lib.hid (cwB_no (.inl g0))
    have H := Lib.hid (cwI_no HG.out)
    go_enter Try.func27, Try.ntmps27
    go_wp2_with fail
    generalize ((w.alloc (.cells #[.slice A x.stops.length ca, .slice L x.lines.length cl] 34)).alloc (.cells #[] 93)) = w1 at *
    refine (specWv_any x _ _ _ _ _ _ xs _ H1.out.stops H1.out.lines HV1.out hx hv).mono ?_
    rintro e w2 ⟨rfl, hb2⟩
    have H2 := Lib.hid (H1.out.call hb2)
    have HO2 := Lib.hid (HO1.out.call hb2)
    have hw2 := hb2.size
    clear hb2
    go_wp2_with fail
    go_ret2
    rw [HG.out]
    exact ⟨some ⟨w.heap.size + 1, 0, none⟩, 0, retLw (by rw [H.out]; rfl), by rw [H.out]; exact fun h => absurd h (by simp), H2.out.bel⟩
  have HG0 := Lib.hid g0
  obtain ⟨hnet, hwk⟩ := wvB_ok g0
  have HN := Lib.hid hnet
  have HWK := Lib.hid hwk.wks
  have h28 := inB_iff.1 (netB_ok hnet).stops
  have h2 : 2 ≤ x.stops.length := by omega
  have h8 : x.stops.length ≤ 8 := by omega
  have h0 : 0 < x.stops.length := by omega
  clear hnet hwk h28
  go_enter Try.func27, Try.ntmps27
  go_wp2_with fail
  generalize ((w.alloc (.cells #[.slice A x.stops.length ca, .slice L x.lines.length cl] 34)).alloc (.cells #[] 93)) = w1 at *
  refine (specWv_any x _ _ _ _ _ _ xs _ H1.out.stops H1.out.lines HV1.out hx hv).mono ?_
  rintro e w2 ⟨rfl, hb2⟩
  have H2 := Lib.hid (H1.out.call hb2)
  have HO2 := Lib.hid (HO1.out.call hb2)
  have hw2 := hb2.size
  clear hb2
  have hw3 : w.heap.size + 1 ≤ w2.heap.size := by omega
  have HVB : Hid (I3sIn w2 (Zone.below (w.heap.size + 1)) V xs) := Lib.hid ((hV0.at_below H2.out.bel).mono (Zone.below_le (by omega)))
  clear hV0
  go_wp2_with fail
  go_loopw [6, 7] (fun v i wr => ∃ a : Nat, a ≤ x.stops.length ∧ i = .int .i64 a ∧ OwnW wr (w.heap.size + 1) v (allW xs x.stops.length a) ∧ Below (w.heap.size + 1) w2 wr) (fun _ i _ => x.stops.length - (intOf i).toNat)
  case atStart => exact ⟨0, Nat.zero_le _, rfl, HO2.out, Below.refl _ _⟩
  case round =>
    obtain ⟨a, ha, rfl, ho, hb⟩ := hrel
    have HO := Lib.hid ho
    have HB := Lib.hid hb
    have hz := hb.size
    have hal := allW_len xs x.stops.length a
    have ham : a * x.stops.length ≤ 8 * 8 := Nat.mul_le_mul (by omega) h8
    have HN4 := Lib.hid (H2.out.callB hb (Nat.lt_succ_self _))
    clear ho hb
    by_cases hlt : a < x.stops.length
    · have hai : (a : Int) < (x.stops.length : Int) := by omega
      have HR0 : Hid (rowW xs x.stops.length a (a + 1) = []) := Lib.hid (rowW_none _ (Nat.le_refl _))
      obtain ⟨c0, c1⟩ := HN4.out.cells
      have hzr : w.heap.size + 1 ≤ wr.heap.size := by omega
      have HV4 := Lib.hid ((HVB.out.at_below HB.out).mono (Zone.below_le (B' := wr.heap.size) hzr))
      go_wp2_with fail
      refine (l7Times_any x.stops.length _ _ a xs _ HV4.out h8 hv HWK.out hlt).mono ?_
      rintro e w5 ⟨g5, c5, rfl, ha5, hg5, hc5, hc6, hb5⟩
      have HA5 := Lib.hid ha5
      have HOX := Lib.hid ((HO.out.call hb5).apart' HO.out hg5)
      have HBX := Lib.hid (HB.out.trans (hb5.mono hzr))
      have hz5 := hb5.size
      have hg5l := ha5.lt
      have HN5 := Lib.hid (HN4.out.call hb5)
      clear ha5 hb5 c0 c1
      obtain ⟨c0, c1⟩ := HN5.out.cells
      go_wp2_with fail
      clear c0 c1
      go_loopw [6, 9] (fun v i wi => ∃ b : Nat, a + 1 ≤ b ∧ b ≤ x.stops.length ∧ i = .int .i64 b ∧ OwnWX wi (w.heap.size + 1) g5 v (allW xs x.stops.length a ++ rowW xs x.stops.length a b) ∧ Below (w.heap.size + 1) w2 wi ∧ Same w5 wi g5 ∧ w5.heap.size ≤ wi.heap.size) (fun _ i _ => x.stops.length - (intOf i).toNat)
      case atStart => exact ⟨a + 1, by omega, by omega, by go_num, by rw [HR0.out, List.append_nil]; exact HOX.out, HBX.out, Same.refl _ _, Nat.le_refl _⟩
      case round =>
        obtain ⟨b, hab, hbn, rfl, ho, hb, hsm, hzw⟩ := hrel
        have HO6 := Lib.hid ho
        have HB6 := Lib.hid hb
        have hz6 := hb.size
        have HN6 := Lib.hid (H2.out.callB hb (Nat.lt_succ_self _))
        have hrl := rowW_len xs x.stops.length a b
        have hll : (allW xs x.stops.length a ++ rowW xs x.stops.length a b).length ≤ 16777216 := by rw [List.length_append]; omega
        obtain ⟨c0, c1⟩ := HN6.out.cells
        by_cases hbl : b < x.stops.length
        · have hbi : (b : Int) < (x.stops.length : Int) := by omega
          have d1 := (hsm b).1.trans (HA5.out.cells b hbl)
          obtain ⟨p, hp⟩ : ∃ p, p = fw xs x.stops.length a b := ⟨_, rfl⟩
          rw [← hp] at d1
          have HP := Lib.hid hp
          have HSM := Lib.hid hsm
          have HPOS := Lib.hid (fw_pos (b := b) HWK.out hlt (by omega))
          clear ho hb hp hsm
          by_cases t : 0 < p
          · have HF := Lib.hid (rowW_yes (xs := xs) (n := x.stops.length) (a := a) (b := b) (by omega) (by exact HPOS.out.1 (by rw [← HP.out]; exact t)))
            go_wp2_with (at_builtin; refine wp_appW rfl _ _ rfl (w.heap.size + 1) g5 _ _ ⟨(a : Int), (b : Int), p⟩ _ HO6.out rfl _ rfl (by simp) hll (by omega) (by omega) ?_; intro v' w' ho' hb' hs' hz'; have HO' := Lib.hid ho'; have HB' := Lib.hid (HB6.out.trans hb'); have HS6 := Lib.hid (HSM.out.trans hs'); clear ho' hb' hs')
            go_roundw
            case rel => exact ⟨b + 1, by omega, by omega, by go_num, by rw [HF.out, ← List.append_assoc, ← HP.out]; exact HO'.out, HB'.out, HS6.out, by omega⟩
            case measure => simp [intOf]; omega
          · have HF := Lib.hid (rowW_no (xs := xs) (n := x.stops.length) (a := a) (b := b) (by intro g; have h9 := HPOS.out.2 g; rw [← HP.out] at h9; exact t h9))
            go_wp2_with fail
            go_roundw
            case rel => exact ⟨b + 1, by omega, by omega, by go_num, by rw [HF.out]; exact HO6.out, HB6.out, HSM.out, hzw⟩
            case measure => simp [intOf]; omega
        · obtain rfl : b = x.stops.length := by omega
          have HAL : Hid (allW xs x.stops.length (a + 1) = allW xs x.stops.length a ++ rowW xs x.stops.length a x.stops.length) := Lib.hid rfl
          clear ho hb hsm
          go_wp2_with fail
          go_roundw
          case rel => exact ⟨a + 1, by omega, by go_num, by rw [HAL.out]; exact HO6.out.1, HB6.out⟩
          case measure => simp [intOf]; omega
    · obtain rfl : a = x.stops.length := by omega
      have hlen2 : (allW xs x.stops.length x.stops.length).length ≤ 1048576 := by omega
      obtain ⟨A9, c9, rfl, h91, h92, h93⟩ := OwnE.i3s HO.out
      have HI9 := Lib.hid h93
      clear h93
      obtain ⟨c0, c1⟩ := HN4.out.cells
      cases hcl : walksB x.stops.length (allW xs x.stops.length x.stops.length)
      · have HG := Lib.hid (cwB_no (x := x) (xs := xs) (.inr hcl))
        have H := Lib.hid (cwI_no HG.out)
        have HCL : Hid (wvB x (allW xs x.stops.length x.stops.length) = false) := Lib.hid (by unfold wvB; rw [hcl]; simp)
        clear hcl
        go_wp2_with fail
        refine (specWv_any x _ _ _ _ _ _ _ _ HN4.out.stops HN4.out.lines (HI9.out.to_below (Nat.le_refl _)) hx hlen2).mono ?_
        rintro e w7 ⟨rfl, hb7⟩
        have HB7 := Lib.hid (HN4.out.call hb7).bel
        have HB8 : Hid (Below w.heap.size w (w7.alloc (.cells #[] 93))) := Lib.hid (HB7.out.alloc HB7.out.size _)
        clear hb7
        rw [HCL.out]
        go_wp2_with fail
        go_ret2
        rw [HG.out]
        exact ⟨some ⟨w7.heap.size, 0, none⟩, 0, retLw (by rw [H.out]; rfl), by rw [H.out]; exact fun h => absurd h (by simp), HB8.out⟩
      · have HG := Lib.hid (cwB_yes HG0.out hcl)
        have H := Lib.hid (cwI_yes HG.out)
        have HCL : Hid (wvB x (allW xs x.stops.length x.stops.length) = true) := Lib.hid (by have h := HG0.out; unfold wvB at h ⊢; simp at h ⊢; exact ⟨h.1, hcl⟩)
        clear hcl
        go_wp2_with fail
        refine (specWv_any x _ _ _ _ _ _ _ _ HN4.out.stops HN4.out.lines (HI9.out.to_below (Nat.le_refl _)) hx hlen2).mono ?_
        rintro e w7 ⟨rfl, hb7⟩
        have HB7 := Lib.hid (HN4.out.call hb7).bel
        have HI7 := Lib.hid ((HI9.out.new_call hb7 (Nat.le_refl _)).mono (Zone.new_le (Nat.le_succ w.heap.size) hb7.size))
        clear hb7
        rw [HCL.out]
        go_wp2_with fail
        go_ret2
        rw [HG.out]
        exact ⟨A9, c9, retLw (by rw [H.out]), by rw [H.out]; exact HI7.out, HB7.out⟩

end Go.Proofs.Ytkbfhcchickkgaa
