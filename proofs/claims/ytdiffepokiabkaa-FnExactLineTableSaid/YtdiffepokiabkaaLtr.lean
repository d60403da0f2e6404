/- LineTable: the reference. -/
import Derived.Test.YtdiffepokiabkaaLtq
import Derived.Test.YtdiffepokiabkaaSpl
import Derived.Maps.AppendAt
namespace Go.Proofs.Ytdiffepokiabkaa
open Go.ChangeShapes Go.WideShapes Go.ChangeAt Go.RowKit Go.PlainAid
set_option linter.unusedVariables false
set_option linter.unusedSimpArgs false

/-- A slice of strings in new memory, and whether it is one. -/
def RetLt (xs : List ByteArray) (b : Bool) (w : World) (e : Ending) (w' : World) : Prop :=
  ∃ A c, e = .returned (.tuple #[.slice A xs.length c, .bool b]) ∧ StrsIn w' (Zone.new w.heap.size w'.heap.size) A xs ∧ Below w.heap.size w w'
theorem OwnE.retLt {w0 w : World} {B : Nat} {v : Value} {xs ys : List ByteArray} {b : Bool} (h : OwnS w B v xs) (he : xs = ys) (hB : w0.heap.size ≤ B) (hb : Below w0.heap.size w0 w) : RetLt ys b w0 (.returned (.tuple #[v, .bool b])) w := by
  subst he
  obtain ⟨A, c, rfl, _, _, hi⟩ := h.strs
  exact ⟨A, c, rfl, hi.mono (Zone.new_le hB (Nat.le_refl _)), hb⟩
theorem retLtNil {w0 w : World} {ys : List ByteArray} {b : Bool} (he : ys = []) (hb : Below w0.heap.size w0 w) : RetLt ys b w0 (.returned (.tuple #[.slice none 0 0, .bool b])) w := by
  subst he
  exact ⟨none, 0, rfl, fun h => by simp at h, hb⟩
/-- append(v, y) of one element; every block but the slice's own stays. -/
theorem wp_appG {α : Type} {e : TypeId} {m : Nat} {enc : α → List Value} {P : Program} {ops : Array Oper} {rest : List Oper} {o : Oper} {a : Act} {Q : Exit → Act → World → Prop} (hgd : o.guard = none) (s x : Operand) (t : TypeId)
    (ho : o.op = .call { callee := .builtin .append, args := #[s, x], argTypes := #[t, t] }) (bytes : Nat) {z : Value} {i : TypeInfo} (ht : P.underlying t = some (.slice e)) (hi : P.info? e = some i) (hz : i.zero = some z) (hsize : i.size = m) (hby : i.bytes = bytes) (hzs : z.cells.size = m) (hsz : 0 < m)
    (hm : ∀ y, (enc y).length = m) (h1 : ∀ y, ∀ u ∈ enc y, u.oneCell' = true) (hb16 : bytes ≤ 1024)
    (B : Nat) (v : Value) (xs : List α) (y : α) (cs : Array Value) (w : World) (hcs : cs.toList = enc y) (hs : a.eval s = v) (n : Nat) (hx : a.eval x = .slice (some ⟨n, 0, none⟩) 1 1) (hnw : n = w.heap.size) (hown : OwnE e m enc w B v xs) (hl : xs.length ≤ 16777216) (hB : B ≤ w.heap.size)
    (h : ∀ v' w', OwnE e m enc w' B v' (xs ++ [y]) → Below B w w' → (∀ X, X < w.heap.size → v.ownBlock ≠ some X → Same w w' X) → (v'.ownBlock = v.ownBlock ∨ v'.ownBlock = some (w.heap.size + 1)) → w.heap.size ≤ w'.heap.size → wpList P ops Q rest (a.put o.dst v') w') : wpList P ops Q (o :: rest) a (w.alloc (.cells cs e)) := by
  subst hnw
  refine wpList_append_own_at _ hgd s x t ho B e i z m bytes ht hi hz hsize hby hzs hsz v xs.length (xs.flatMap enc) hs (World.ownsRow.alloc hown _) ⟨w.heap.size, 0, none⟩ 1 1 (enc y) hx (by rw [hm]; omega) (fun j u hj => ?_) (h1 y) (by unfold maxLen; omega) ?_ (by simp; omega) (fun v' w' ho' hg _ hat => ?_)
  · rw [show (⟨w.heap.size, 0, none⟩ : Addr).add j = ⟨w.heap.size, j, none⟩ by unfold Addr.add; split <;> simp_all, World.cell?_alloc_mark, ← Array.getElem?_toList, hcs]
    exact hj
  · have : (xs.length + 1) * bytes ≤ (16777216 + 1) * 1024 := Nat.mul_le_mul (by omega) hb16
    omega
  · have hz' := hg.size
    simp at hz'
    refine h v' w' ?_ (((Below.refl B w).alloc hB _).grown hg (by simp; omega) (fun k hk => ((World.ownsRow.lt hown) k hk).1)) (fun X hX hne => ?_) ?_ (by omega)
    · show w'.ownsRow B e m v' (xs ++ [y]).length ((xs ++ [y]).flatMap enc)
      rw [List.length_append, List.flatMap_append, List.flatMap_cons, List.flatMap_nil, List.append_nil]
      exact ho'
    · have h1 : Same w (w.alloc (.cells cs e)) X := Same.of_below ((Below.refl _ _).alloc (Nat.le_refl _) _) hX
      have hb := hg.block X (by simp; omega) (fun e => hne e.symm)
      exact h1.trans (fun o => ⟨World.cell?_of_block (a := ⟨X, o, none⟩) hb, World.frozen?_of_block (a := ⟨X, o, none⟩) hb⟩)
    · rcases hat with g | g
      · exact .inl g
      · exact .inr (by rw [g]; simp)
theorem wp_appSG {ops : Array Oper} {rest : List Oper} {o : Oper} {a : Act} {Q : Exit → Act → World → Prop} (hgd : o.guard = none) (s x : Operand)
    (ho : o.op = .call { callee := .builtin .append, args := #[s, x], argTypes := #[30, 30] })
    (B : Nat) (v : Value) (xs : List ByteArray) (y : ByteArray) (w : World) (hown : OwnS w B v xs) (hs : a.eval s = v) (n : Nat) (hx : a.eval x = .slice (some ⟨n, 0, none⟩) 1 1) (hnw : n = w.heap.size) (hl : xs.length ≤ 16777216) (hB : B ≤ w.heap.size)
    (h : ∀ v' w', OwnS w' B v' (xs ++ [y]) → Below B w w' → (∀ X, X < w.heap.size → v.ownBlock ≠ some X → Same w w' X) → (v'.ownBlock = v.ownBlock ∨ v'.ownBlock = some (w.heap.size + 1)) → w.heap.size ≤ w'.heap.size → wpList Try.prog ops Q rest (a.put o.dst v') w') : wpList Try.prog ops Q (o :: rest) a (w.alloc (.cells #[.string y] 9)) := by
  obtain ⟨i0, hi, hz0, hz1, hz2⟩ := info_parts Try.infoS
  exact wp_appG (enc := encS) hgd s x 30 ho 16 Try.underlying30 hi hz0 hz1 hz2 rfl (by omega) (fun _ => rfl) (fun y u hu => by simp [encS] at hu; subst hu; rfl) (by omega) B v xs y _ w rfl hs n hx hnw hown hl hB h
/-- Of the blocks below B all stay but X. -/
def KeptC (B X : Nat) (w w' : World) : Prop := ∀ c, c < B → c ≠ X → ∀ o, w'.cell? ⟨c, o, none⟩ = w.cell? ⟨c, o, none⟩
theorem atI_row {x : TTD} {i k l : Nat} (hb : (nth3 x.trips i).b = (l : Nat)) : atI x i k = (nth3 x.trips i).c + sumI (nthL x.net.lines l).runs k := by
  unfold atI lnI
  rw [hb, Int.toNat_natCast]
theorem lnI_row {x : TTD} {i l : Nat} (hb : (nth3 x.trips i).b = (l : Nat)) : lnI x i = nthL x.net.lines l := by
  unfold lnI
  rw [hb, Int.toNat_natCast]
theorem pkT_mem' {x : TTD} {l : Int} {n : Nat} {t : I3} (h : t ∈ pkT x l n) : ∃ k, k < n ∧ t = nth3 x.trips k ∧ t.b = l := by
  induction n with
  | zero => simp [pkT] at h
  | succ n ih =>
    rw [pkT] at h
    split at h
    · rename_i hb
      rcases List.mem_append.1 h with h | h
      · obtain ⟨k, hk, e, e'⟩ := ih h; exact ⟨k, by omega, e, e'⟩
      · simp at h; exact ⟨n, by omega, h, by rw [h]; exact hb⟩
    · obtain ⟨k, hk, e, e'⟩ := ih h; exact ⟨k, by omega, e, e'⟩

set_option maxRecDepth 100000 in
set_option maxHeartbeats 4000000 in
theorem specLineTable_any (x : TTD) (A L T : Option Addr) (ca cl ct : Nat) (l : Int) (w : World) (hA : StrsIn w (Zone.below w.heap.size) A x.net.stops) (hL : LinesIn w (Zone.below w.heap.size) L x.net.lines) (hT : I3sIn w (Zone.below w.heap.size) T x.trips) (hx : FitsT x) :
    Calls Try.prog 11 #[.agg #[.slice A x.net.stops.length ca, .slice L x.net.lines.length cl, .slice T x.trips.length ct], .int .i64 l] w (RetLt (ltT x l) (hwB x l) w) := by
  have H0' : Hid (TtBox w (w.alloc (.cells #[.slice A x.net.stops.length ca, .slice L x.net.lines.length cl, .slice T x.trips.length ct] 45)) w.heap.size x A ca L cl T ct) := Lib.hid (TtBox.box hA hL hT)
  have H0 : Hid (TtBox w ((w.alloc (.cells #[.slice A x.net.stops.length ca, .slice L x.net.lines.length cl, .slice T x.trips.length ct] 45)).alloc (.cells #[] 9)) w.heap.size x A ca L cl T ct) := Lib.hid (H0'.out.call (by go_grown))
  have O0 : Hid (OwnS ((w.alloc (.cells #[.slice A x.net.stops.length ca, .slice L x.net.lines.length cl, .slice T x.trips.length ct] 45)).alloc (.cells #[] 9)) (w.heap.size + 1) (.slice (some ⟨w.heap.size + 1, 0, none⟩) 0 0) []) := Lib.hid (by simpa using OwnE.empty (e := 9) (m := 1) (enc := encS) (w := (w.alloc (.cells #[.slice A x.net.stops.length ca, .slice L x.net.lines.length cl, .slice T x.trips.length ct] 45))) (Nat.le_refl _))
  have hn := hx.trips
  have hm := hx.net.lines
  have hwl : IntKind.i64.wrap ((x.net.lines.length : Int) - 1) = (x.net.lines.length : Int) - 1 := IntWalk.i64_in _ (by omega)
  have hz0 : w.heap.size + 2 ≤ ((w.alloc (.cells #[.slice A x.net.stops.length ca, .slice L x.net.lines.length cl, .slice T x.trips.length ct] 45)).alloc (.cells #[] 9)).heap.size := by simp
  clear H0' hA hL hT
  cases g1 : ttB x
  · have hcd : hwB x l = false := by unfold hwB; rw [g1]; rfl
    have HN := Lib.hid (And.intro (ltT_no hcd) hcd)
    clear hcd
    go_enter Try.func11, Try.ntmps11
    go_wp2_with fail
    generalize ((w.alloc (.cells #[.slice A x.net.stops.length ca, .slice L x.net.lines.length cl, .slice T x.trips.length ct] 45)).alloc (.cells #[] 9)) = w0 at *
    refine (l5Good_any x _ _ _ _ _ _ _ H0.out.stops H0.out.lines H0.out.trips hx).mono ?_
    rintro e w1 ⟨rfl, hb1⟩
    have H1 := Lib.hid (H0.out.call hb1)
    have O1 := Lib.hid (O0.out.call hb1)
    have hz1 : w.heap.size + 2 ≤ w1.heap.size := Nat.le_trans hz0 hb1.size
    clear hb1
    obtain ⟨c0, c1, c2⟩ := H1.out.cells
    go_wp2_with (first | (go_at_call 32; refine (l1In_any _ _ _ _).mono ?_; rintro e wt ⟨rfl, rfl⟩))
    go_ret2
    rw [HN.out.2]
    exact O1.out.retLt HN.out.1.symm (by omega) H1.out.bel
  cases g2 : inB l 0 (x.net.lines.length - 1)
  · have hcd : hwB x l = false := by unfold hwB; rw [g1, g2]; rfl
    have HN := Lib.hid (And.intro (ltT_no hcd) hcd)
    clear hcd
    go_enter Try.func11, Try.ntmps11
    go_wp2_with fail
    generalize ((w.alloc (.cells #[.slice A x.net.stops.length ca, .slice L x.net.lines.length cl, .slice T x.trips.length ct] 45)).alloc (.cells #[] 9)) = w0 at *
    refine (l5Good_any x _ _ _ _ _ _ _ H0.out.stops H0.out.lines H0.out.trips hx).mono ?_
    rintro e w1 ⟨rfl, hb1⟩
    have H1 := Lib.hid (H0.out.call hb1)
    have O1 := Lib.hid (O0.out.call hb1)
    have hz1 : w.heap.size + 2 ≤ w1.heap.size := Nat.le_trans hz0 hb1.size
    clear hb1
    obtain ⟨c0, c1, c2⟩ := H1.out.cells
    go_wp2_with (first | (go_at_call 32; refine (l1In_any _ _ _ _).mono ?_; rintro e wt ⟨rfl, rfl⟩))
    go_ret2
    rw [HN.out.2]
    exact O1.out.retLt HN.out.1.symm (by omega) H1.out.bel
  have hcd : hwB x l = true := by unfold hwB; rw [g1, g2]; rfl
  obtain ⟨_, n, rfl, hnl⟩ := hwB_ok hcd
  have HY := Lib.hid (And.intro (ltT_yes hcd) hcd)
  rw [Int.toNat_natCast] at HY
  have ht12 := (ttB_ok g1).2.1
  have HX := Lib.hid (lnX_of g1 hnl)
  have HG := Lib.hid g1
  have hni : (n : Int) < (x.net.lines.length : Int) := by omega
  have z2 : (⟨#[32]⟩ : ByteArray).size = 1 := rfl
  clear hcd
  go_enter Try.func11, Try.ntmps11
  go_wp2_with fail
  generalize ((w.alloc (.cells #[.slice A x.net.stops.length ca, .slice L x.net.lines.length cl, .slice T x.trips.length ct] 45)).alloc (.cells #[] 9)) = w0 at *
  refine (l5Good_any x _ _ _ _ _ _ _ H0.out.stops H0.out.lines H0.out.trips hx).mono ?_
  rintro e w1 ⟨rfl, hb1⟩
  have H1 := Lib.hid (H0.out.call hb1)
  have O1 := Lib.hid (O0.out.call hb1)
  have hz1 : w.heap.size + 2 ≤ w1.heap.size := Nat.le_trans hz0 hb1.size
  clear hb1
  obtain ⟨c0, c1, c2⟩ := H1.out.cells
  go_wp2_with (first | (go_at_call 32; refine (l1In_any _ _ _ _).mono ?_; rintro e wt ⟨rfl, rfl⟩))
  refine (l6Trips_any x _ _ _ _ _ _ n _ H1.out.stops H1.out.lines H1.out.trips ht12).mono ?_
  rintro e w3 ⟨A3, c3, rfl, hi3, hb3⟩
  have H3 := Lib.hid (H1.out.call hb3)
  have O3 := Lib.hid (O1.out.call hb3)
  have hz3 : w.heap.size + 2 ≤ w3.heap.size := Nat.le_trans hz1 hb3.size
  obtain ⟨b, o, rfl, hbl, S, cs, R, cr, k0, k1, k2, i1, i2, hcs, hcr⟩ := LinesIn.lineC H3.out.lines0 hnl
  have hb3l : b < w3.heap.size := by have : b < w.heap.size := hbl; omega
  have HS := Lib.hid i1
  have HI3 := Lib.hid hi3
  have hil : (ixF x n x.trips.length).length ≤ 12 := by rw [ixF_len]; exact Nat.le_trans (stF_len _ _ _) ht12
  have HIXL := Lib.hid (ixF_len x n x.trips.length)
  have H4 := Lib.hid (H3.out.call (show Below w3.heap.size w3 (w3.alloc (.cells #[.string (nthL x.net.lines n).name, .slice S (nthL x.net.lines n).stops.length cs, .slice R (nthL x.net.lines n).runs.length cr] 69)) by go_grown))
  have O4 := Lib.hid (O3.out.alloc (.cells #[.string (nthL x.net.lines n).name, .slice S (nthL x.net.lines n).stops.length cs, .slice R (nthL x.net.lines n).runs.length cr] 69))
  have hz4 : w3.heap.size < (w3.alloc (.cells #[.string (nthL x.net.lines n).name, .slice S (nthL x.net.lines n).stops.length cs, .slice R (nthL x.net.lines n).runs.length cr] 69)).heap.size := by simp
  have HB4 : Hid (Below w3.heap.size w3 (w3.alloc (.cells #[.string (nthL x.net.lines n).name, .slice S (nthL x.net.lines n).stops.length cs, .slice R (nthL x.net.lines n).runs.length cr] 69))) := Lib.hid (by go_grown)
  have HLC : Hid ((w3.alloc (.cells #[.string (nthL x.net.lines n).name, .slice S (nthL x.net.lines n).stops.length cs, .slice R (nthL x.net.lines n).runs.length cr] 69)).cell? ⟨w3.heap.size, 1, none⟩ = some (.slice S (nthL x.net.lines n).stops.length cs)) := Lib.hid (by go_simp)
  clear hb3 i1 i2 hi3 c0 c1 c2
  obtain ⟨c0, c1, c2⟩ := H3.out.cells
  go_wp2_with fail
  clear c0 c1 c2 k0 k1 k2
  generalize (w3.alloc (.cells #[.string (nthL x.net.lines n).name, .slice S (nthL x.net.lines n).stops.length cs, .slice R (nthL x.net.lines n).runs.length cr] 69)) = w4 at *
  obtain ⟨D, hD⟩ : ∃ D, D = (nthL x.net.lines n).stops.length := ⟨_, rfl⟩
  have hD6 : D ≤ 6 := by rw [hD]; exact HX.out.len
  rw [← hD] at HLC ⊢
  have HD := Lib.hid hD
  clear hD
  go_loopw [6, 9, 10, 11] (fun v i _ _ wr => ∃ k : Nat, k ≤ D ∧ i = .int .i64 k ∧ OwnS wr (w.heap.size + 1) v (tabF x n k) ∧ (v.ownBlock = some (w.heap.size + 1) ∨ ∃ g, v.ownBlock = some g ∧ w4.heap.size ≤ g) ∧ KeptC w4.heap.size (w.heap.size + 1) w4 wr ∧ w4.heap.size ≤ wr.heap.size ∧ Below (w.heap.size + 1) w4 wr) (fun _ i _ _ _ => D - (intOf i).toNat)
  case atStart => exact ⟨0, Nat.zero_le _, rfl, O4.out, .inl rfl, fun _ _ _ _ => rfl, Nat.le_refl _, Below.refl _ _⟩
  case round =>
    obtain ⟨k, hk, rfl, ho, hv, hkc, hzr, hb⟩ := hrel
    have O5 := Lib.hid ho
    have HV := Lib.hid hv
    have HK := Lib.hid hkc
    have HB := Lib.hid hb
    have H5 := Lib.hid (H4.out.callB hb (Nat.lt_succ_self _))
    have hlc : wr.cell? ⟨w3.heap.size, 1, none⟩ = some (.slice S D cs) := (hkc _ hz4 (by omega) 1).trans HLC.out
    have hg3 : w3.heap.size < wr.heap.size := by omega
    clear ho hv hkc hb
    by_cases hlt : k < D
    · have hkl : k < (nthL x.net.lines n).stops.length := by rw [← HD.out]; exact hlt
      obtain ⟨s0, s1, s2⟩ := HX.out.stop k hkl
      obtain ⟨m, hmm⟩ : ∃ m : Nat, nth (nthL x.net.lines n).stops k = m := ⟨(nth (nthL x.net.lines n).stops k).toNat, by omega⟩
      have hml : m < x.net.stops.length := by omega
      have hmi : (m : Int) < x.net.stops.length := by omega
      have HR0 : Hid (nthS x.net.stops m = rowS x n k 0) := Lib.hid (by unfold rowS; rw [hmm, Int.toNat_natCast])
      obtain ⟨bs', os', rfl, hbl1, hc1⟩ := (IntsIn.at HS.out).get hkl
      rw [hmm] at hc1
      replace hc1 : wr.cell? ⟨bs', os' + k, none⟩ = some (.int .i64 m) := ((HB4.out.mono (by omega) |>.trans (HB.out.mono (by omega)) : Below w.heap.size w3 wr).cell (p := ⟨bs', _, none⟩) hbl1).trans hc1
      obtain ⟨b2, o2, rfl, hbl2, hc2⟩ := H5.out.stops.get hml
      replace hc2 : wr.cell? ⟨b2, o2 + m, none⟩ = some (.string (nthS x.net.stops m)) := hc2
      have hik : (k : Int) < (D : Int) := by omega
      obtain ⟨c0, c1, c2⟩ := H5.out.cells
      clear hmm s0 s1 s2
      go_wp2_with fail
      go_quiet (fail)
      go_wp2_with fail
      have H6 := Lib.hid (H5.out.call (bel_drewN (Below.refl _ _) nq))
      have O6 := Lib.hid (O5.out.drewN nq)
      have HK6 : Hid (KeptC w4.heap.size (w.heap.size + 1) w4 (wr.drewN nq)) := Lib.hid HK.out
      have HB6 := Lib.hid (bel_drewN HB.out nq)
      have hz6 : w4.heap.size ≤ (wr.drewN nq).heap.size := hzr
      clear c0 c1 c2 hc1 hc2 hlc H5 O5 HK HB hzr hg3
      rw [HR0.out]
      generalize wr.drewN nq = w6 at *
      go_loopw [10, 11] (fun s i wz => ∃ j : Nat, j ≤ (ixF x n x.trips.length).length ∧ i = .int .i64 j ∧ s = .string (rowS x n k j) ∧ Below w6.heap.size w6 wz) (fun _ i _ => (ixF x n x.trips.length).length - (intOf i).toNat)
      case atStart => exact ⟨0, Nat.zero_le _, rfl, rfl, Below.refl _ _⟩
      case round =>
        obtain ⟨j, hj, rfl, rfl, hb⟩ := hrel
        have H7 := Lib.hid (H6.out.call hb)
        have HB7 := Lib.hid hb
        have hz7 := hb.size
        clear hb
        by_cases hjl : j < (ixF x n x.trips.length).length
        · obtain ⟨i, hi, hie, hib, hst⟩ := ixF_at hjl
          have hat : atI x i k = nth (stF x n x.trips.length) j + sumI (nthL x.net.lines n).runs k := by rw [atI_row hib, hst]
          obtain ⟨t0, t1⟩ := HX.out.time i k hi hib hkl
          rw [← hst, ← hat] at t0 t1
          have HRW : Hid (rowS x n k j ++ ⟨#[32]⟩ ++ clk (atI x i k).toNat = rowS x n k (j + 1)) := Lib.hid (by rw [hat]; exact rowS_succ x n k j)
          have HTi := Lib.hid (ti_of HG.out hi)
          have hkr : k ≤ (lnI x i).runs.length := by rw [lnI_row hib]; have := HX.out.runs; omega
          obtain ⟨b9, o9, rfl, hbl9, hc9⟩ := (IntsIn.at (HI3.out.to_below (Nat.le_refl _))).get hjl
          obtain ⟨b9', o9', e9, hz9, _, _⟩ := HI3.out (by omega)
          simp only [Option.some.injEq, Addr.mk.injEq, and_true] at e9
          obtain ⟨rfl, rfl⟩ := e9
          rw [hie] at hc9
          have hb9a : b9 ≠ w.heap.size + 1 := by have := hz9.1; omega
          have hc9w : w6.cell? ⟨b9, o9 + j, none⟩ = some (.int .i64 i) := (HK6.out b9 (by omega) hb9a _).trans ((HB4.out.cell (p := ⟨b9, _, none⟩) hbl9).trans hc9)
          have HC9 := Lib.hid hc9w
          have hss := rowS_size HX.out hkl j
          have hij : (j : Int) < ((ixF x n x.trips.length).length : Nat) := by omega
          have hb9l : b9 < w6.heap.size := by omega
          clear hie hib hst hat hc9 hc9w
          obtain ⟨wo, rfl⟩ : ∃ wo : World, wo = wr := ⟨_, rfl⟩
          have hC : ∀ w', Below wo.heap.size wo w' → Tt3 w' w.heap.size x (some ⟨b2, o2, none⟩) ca (some ⟨b, o, none⟩) cl T ct := fun w' h => (H7.out.call h).cells
          have hD1 : ∀ w', Below wo.heap.size wo w' → w'.cell? ⟨b9, o9 + j, none⟩ = some (.int .i64 i) := fun w' h => ((bel_call HB7.out h).cell (p := ⟨b9, _, none⟩) hb9l).trans HC9.out
          unfold Tt3 at hC
          have hss2 : (rowS x n k j).size ≤ 99 := by omega
          obtain ⟨s, hsx⟩ : ∃ s, s = rowS x n k j := ⟨_, rfl⟩
          rw [← hsx] at HRW hss2 ⊢
          have cl5 : (clk (atI x i k).toNat).size = 5 := clk_size5 _
          obtain ⟨q, hcx⟩ : ∃ q, q = clk (atI x i k).toNat := ⟨_, rfl⟩
          rw [← hcx] at HRW cl5
          have HCX := Lib.hid hcx
          have p1 : ¬ 9223372036854775807 < s.size + 1 := by omega
          have p2 : ¬ 9223372036854775807 < s.size + 1 + q.size := by omega
          clear hcx hsx hss cl5
          go_wp2_with fail
          go_region_held3 (fun w' => Below wo.heap.size wo w') (repeat' first | assumption | exact Nat.le_refl _ | exact Below.refl _ _ | (refine bel_drew ?_) | (refine bel_alloc ?_ _) | (refine bel_set ?_ ?_ _))
            (first
              | (go_at_call 35; refine (l5At_any x _ _ _ _ _ _ i k _ _ ((H7.out.call ‹Below wo.heap.size wo _›).stops) ((H7.out.call ‹Below wo.heap.size wo _›).lines) ((H7.out.call ‹Below wo.heap.size wo _›).trips) HTi.out hn hm rfl hkr).mono ?_; rintro e w8 ⟨rfl, hb8⟩; have hB8 := bel_call ‹Below wo.heap.size wo _› hb8; clear hb8)
              | (go_at_call 34; refine (l4Text_any _ _ t0 t1).mono ?_; rintro e w9 ⟨rfl, q9, rfl⟩; rw [← HCX.out]; have hB9 := below_drewNC (‹Below wo.heap.size wo w8›) q9))
          all_goals
            have HB9 := Lib.hid (bel_call HB7.out hB9)
            clear hC hD1 hB9 p1 p2 hss2
            go_wp2_with fail
            go_roundw
            case rel => exact ⟨j + 1, by omega, by go_num, by rw [← HRW.out], HB9.out⟩
            case measure => simp [intOf]; omega
        · obtain rfl : j = (ixF x n x.trips.length).length := by omega
          have HT1 : Hid (tabF x n (k + 1) = tabF x n k ++ [rowS x n k (ixF x n x.trips.length).length]) := Lib.hid (by rw [tabF, HIXL.out])
          have O7 := Lib.hid (O6.out.call HB7.out)
          have htl := tabF_len x n k
          have hkd : (tabF x n k).length ≤ 16777216 := by omega
          have HK7 : Hid (KeptC w4.heap.size (w.heap.size + 1) w4 wr) := Lib.hid (fun c hc hne o => ((HB7.out.cell (p := ⟨c, o, none⟩) (by have : c < w4.heap.size := hc; show c < w6.heap.size; omega))).trans (HK6.out c hc hne o))
          have HB8 := Lib.hid (HB6.out.trans (HB7.out.mono (by omega)))
          clear htl
          go_wp2_with (at_builtin; refine wp_appSG rfl _ _ rfl (w.heap.size + 1) _ (tabF x n k) (rowS x n k (ixF x n x.trips.length).length) _ O7.out rfl _ rfl (by simp) hkd (by omega) ?_; intro v' w' ho' hb' hsm' hat' hsz'; have O8 := Lib.hid ho'; have HB9 := Lib.hid (HB8.out.trans hb'); have HSM := Lib.hid hsm'; have HAT := Lib.hid hat'; have hz8 : w4.heap.size ≤ w'.heap.size := (by omega); clear ho' hb' hsm' hat' hsz')
          have HV9 : Hid (v'.ownBlock = some (w.heap.size + 1) ∨ ∃ g, v'.ownBlock = some g ∧ w4.heap.size ≤ g) := Lib.hid (by
            rcases HAT.out with h | h
            · rw [h]; exact HV.out
            · exact .inr ⟨_, h, by omega⟩)
          have HK9 : Hid (KeptC w4.heap.size (w.heap.size + 1) w4 w') := Lib.hid (fun c hc hne o => by
            have hne2 : ∀ v : Value, (v.ownBlock = some (w.heap.size + 1) ∨ ∃ g, v.ownBlock = some g ∧ w4.heap.size ≤ g) → v.ownBlock ≠ some c := by
              intro v hv e
              rcases hv with h | ⟨g, h, hg⟩
              · rw [h] at e; simp at e; omega
              · rw [h] at e; simp at e; omega
            exact ((HSM.out c (by omega) (hne2 _ HV.out)) o).1.trans (HK7.out c hc hne o))
          clear HAT HSM
          go_roundw
          case rel => exact ⟨k + 1, by omega, by go_num, by rw [HT1.out]; exact O8.out, HV9.out, HK9.out, hz8, HB9.out⟩
          case measure => simp [intOf]; omega
    · obtain rfl : k = D := by omega
      go_wp2_with fail
      go_ret2
      rw [HY.out.2]
      exact O5.out.retLt (by rw [HY.out.1, HD.out]) (by omega) H5.out.bel

end Go.Proofs.Ytdiffepokiabkaa
