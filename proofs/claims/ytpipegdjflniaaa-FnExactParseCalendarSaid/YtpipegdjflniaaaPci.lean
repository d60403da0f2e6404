/- impl.ParseCalendar: what it answers. -/
import Derived.Test.YtpipegdjflniaaaPcp
import Derived.Test.YtpipegdjflniaaaFiu
import Derived.Test.YtpipegdjflniaaaCalD
import Derived.BigQuiet
import Derived.Deep.CutBlock
import Derived.Deep.DeepCutAuto
namespace Go.Proofs.Ytpipegdjflniaaa
open Go.ChangeShapes Go.WideShapes Go.ChangeAt Go.RowKit Go.PlainAid
set_option linter.unusedVariables false
set_option linter.unusedSimpArgs false

def pkV (l : List UInt8) : CalV := (psC l).getD (0, 0, 0, [], [])
def pkB (l : List UInt8) : Bool := (psC l).isSome
/-- What both sides hand back. -/
def RetPC (l : List UInt8) (w : World) (e : Ending) (w' : World) : Prop := RetCal (pkV l).1 (pkV l).2.1 (pkV l).2.2.1 (pkV l).2.2.2.1 (pkV l).2.2.2.2 (pkB l) w e w'
theorem retPC_none {l : List UInt8} {w w' : World} {e : Ending} (h : psC l = none) (hr : RetCal 0 0 0 [] [] false w e w') : RetPC l w e w' := by
  unfold RetPC pkV pkB
  rw [h]
  exact hr
theorem retPC_some {l : List UInt8} {f t d : Int} {us vs : List Int} {w w' : World} {e : Ending} (h : psC l = some (f, t, d, us, vs)) (hr : RetCal f t d us vs true w e w') : RetPC l w e w' := by
  unfold RetPC pkV pkB
  rw [h]
  exact hr
theorem retCal_zero {w w' : World} (hb : Below w.heap.size w w') : RetCal 0 0 0 [] [] false w (.returned (.tuple #[.agg #[.int .i64 0, .int .i64 0, .int .i64 0, .slice none 0 0, .slice none 0 0], .bool false])) w' :=
  ⟨none, 0, none, 0, rfl, CalO.nil, hb⟩
theorem FB.setF {w : World} {g : Nat} {f t d : Int} {a r : Value} (h : FB w g f t d a r) (f' : Int) : FB (w.setCell ⟨g, 0, none⟩ (.int .i64 f')) g f' t d a r where
  c0 := World.cell?_setCell_same _ _ _ h.c0
  c1 := by rw [World.cell?_setCell_other _ _ _ _ (addr_ne (by omega))]; exact h.c1
  c2 := by rw [World.cell?_setCell_other _ _ _ _ (addr_ne (by omega))]; exact h.c2
  c3 := by rw [World.cell?_setCell_other _ _ _ _ (addr_ne (by omega))]; exact h.c3
  c4 := by rw [World.cell?_setCell_other _ _ _ _ (addr_ne (by omega))]; exact h.c4
  fr := fun j => by rw [World.frozen?_setCell]; exact h.fr j
  lt := by rw [size_set]; exact h.lt
theorem FB.setT {w : World} {g : Nat} {f t d : Int} {a r : Value} (h : FB w g f t d a r) (t' : Int) : FB (w.setCell ⟨g, 1, none⟩ (.int .i64 t')) g f t' d a r where
  c0 := by rw [World.cell?_setCell_other _ _ _ _ (addr_ne (by omega))]; exact h.c0
  c1 := World.cell?_setCell_same _ _ _ h.c1
  c2 := by rw [World.cell?_setCell_other _ _ _ _ (addr_ne (by omega))]; exact h.c2
  c3 := by rw [World.cell?_setCell_other _ _ _ _ (addr_ne (by omega))]; exact h.c3
  c4 := by rw [World.cell?_setCell_other _ _ _ _ (addr_ne (by omega))]; exact h.c4
  fr := fun j => by rw [World.frozen?_setCell]; exact h.fr j
  lt := by rw [size_set]; exact h.lt
theorem FSt.setF {w : World} {B r0 g : Nat} {f t d : Int} {va vb : Value} {us vs : List Int} (h : FSt w B r0 g f t d va vb us vs) (hgr : r0 ≠ g) (f' : Int) : FSt (w.setCell ⟨g, 0, none⟩ (.int .i64 f')) B r0 g f' t d va vb us vs :=
  ⟨h.c.setF f', h.z.off (p := ⟨g, 0, none⟩) hgr _, h.u.off (p := ⟨g, 0, none⟩) h.ga _, h.v.off (p := ⟨g, 0, none⟩) h.gb _, h.ap, h.ga, h.gb, h.ra, h.rb⟩
theorem FSt.setT {w : World} {B r0 g : Nat} {f t d : Int} {va vb : Value} {us vs : List Int} (h : FSt w B r0 g f t d va vb us vs) (hgr : r0 ≠ g) (t' : Int) : FSt (w.setCell ⟨g, 1, none⟩ (.int .i64 t')) B r0 g f t' d va vb us vs :=
  ⟨h.c.setT t', h.z.off (p := ⟨g, 1, none⟩) hgr _, h.u.off (p := ⟨g, 1, none⟩) h.ga _, h.v.off (p := ⟨g, 1, none⟩) h.gb _, h.ap, h.ga, h.gb, h.ra, h.rb⟩

theorem head_bt {s : ByteArray} {c : UInt8} (h : 0 < s.size) : s.data.toList.head? = some c ↔ bt s 0 = c.toNat := by
  have h0 := bt_get s 0 h
  have hg := get_bt s 0 h
  rw [List.head?_eq_getElem?, h0, Option.some.injEq]
  constructor
  · intro e; rw [← hg, e]
  · intro e
    apply UInt8.toNat.inj
    omega
theorem wk_bt : ∀ k : Fin 7, bt ⟨#[109, 116, 119, 116, 102, 115, 115]⟩ k.1 = ((wkC k.1).toNat : Int) := by decide +kernel
theorem wkK_no {m : List UInt8} {k : Nat} : ∀ {n : Nat}, k < n → (m[k]? == some (wkC k) || m[k]? == some 46) = false → wkK m n = false
  | 0, h, _ => by omega
  | n + 1, h, hf => by
    unfold wkK
    by_cases e : k = n
    · subst e; rw [hf]; simp
    · rw [wkK_no (n := n) (by omega) hf]; rfl
def strLen : Value → Nat
  | .string b => b.size
  | _ => 0
theorem natR_le (l : List UInt8) : (natR l).length ≤ l.length := by
  unfold natR
  split
  · simp
  · rw [List.length_drop]; omega
theorem natV_bd (l : List UInt8) : 0 ≤ natV l ∧ natV l ≤ 999999 := by
  unfold natV
  split
  · omega
  · rename_i hb
    have hb' : natBad l = false := by cases h : natBad l <;> simp_all
    unfold natBad at hb'
    simp only [Bool.or_eq_false_iff, decide_eq_false_iff_not] at hb'
    have hd : ∀ c ∈ l.take (lead l), isDg c = true := fun c hc => by
      have e : l.take (lead l) = l.takeWhile isDg := ((List.prefix_iff_eq_take).1 (List.takeWhile_prefix isDg)).symm
      rw [e] at hc
      exact List.all_eq_true.1 (List.all_takeWhile) c hc
    have hbd := val_bd _ hd
    have hlen : (l.take (lead l)).length ≤ 6 := by rw [List.length_take]; omega
    have h10 : 10 ^ (l.take (lead l)).length ≤ 10 ^ 6 := Nat.pow_le_pow_right (by omega) hlen
    omega
theorem hasPrefix_any (s : ByteArray) (w : World) (hs : s.size ≤ 9223372036854775807) :
    Calls Try.prog 14 #[.string s, .string ⟨#[45]⟩] w fun e w' => e = .returned (.bool (s.data.toList.head? == some 45)) ∧ w = w' := by
  have hl := list_of_size s
  rcases Nat.eq_zero_or_pos s.size with h0 | h0
  · have h1 : ¬ 1 ≤ s.size := by omega
    have hv : Hid ((s.data.toList.head? == some 45) = false) := Lib.hid (by
      rw [h0] at hl
      rw [List.length_eq_zero_iff.1 hl]; rfl)
    clear hl h0
    go_enter Try.func14, Try.ntmps14
    go_wp2
    go_ret
    exact ⟨by rw [hv.out]; rfl, rfl⟩
  · cases hv : (s.data.toList.head? == some 45)
    · have hx : ((s.extract 0 1).toList == [45]) = false := by
        rw [ext_cell s h0]
        have h1 := bt_get s 0 h0
        rw [← List.head?_eq_getElem?] at h1
        rw [h1] at hv
        simpa using hv
      clear hv hl
      go_enter Try.func14, Try.ntmps14
      go_wp2
      go_ret
      exact ⟨rfl, rfl⟩
    · have hx : ((s.extract 0 1).toList == [45]) = true := by
        rw [ext_cell s h0]
        have h1 := bt_get s 0 h0
        rw [← List.head?_eq_getElem?] at h1
        rw [h1] at hv
        simpa using hv
      clear hv hl
      go_enter Try.func14, Try.ntmps14
      go_wp2
      go_ret
      exact ⟨rfl, rfl⟩
theorem pcE_short {n : Nat} {l : List UInt8} {us vs : List Int} (h : l ≠ []) (h1 : l.length < 3 ∨ l.head? ≠ some 32) : pcE (n + 1) l us vs = none := by
  unfold pcE; rw [if_neg h, if_pos h1]
theorem pcE_ok {l : List UInt8} (h3 : 3 ≤ l.length) (h : l.head? = some 32) : ¬ (l.length < 3 ∨ l.head? ≠ some 32) := by
  rintro (h1 | h1)
  · omega
  · exact h1 h
theorem pcE_bad {n : Nat} {l : List UInt8} {us vs : List Int} (h : l ≠ []) (h3 : 3 ≤ l.length) (h4 : l.head? = some 32) (hb : natB (l.drop 2) = false) : pcE (n + 1) l us vs = none := by
  unfold pcE; rw [if_neg h, if_neg (pcE_ok h3 h4), if_pos hb]
theorem pcE_pl {n : Nat} {l : List UInt8} {us vs : List Int} (h : l ≠ []) (h3 : 3 ≤ l.length) (h4 : l.head? = some 32) (hb : natB (l.drop 2) = true) (hc : l[1]? = some 43) (hv : vs = []) : pcE (n + 1) l us vs = pcE n (natR (l.drop 2)) (us ++ [natV (l.drop 2)]) vs := by
  conv => lhs; unfold pcE
  rw [if_neg h, if_neg (pcE_ok h3 h4), if_neg (by rw [hb]; simp), if_pos ⟨hc, hv⟩]
theorem pcE_mi {n : Nat} {l : List UInt8} {us vs : List Int} (h : l ≠ []) (h3 : 3 ≤ l.length) (h4 : l.head? = some 32) (hb : natB (l.drop 2) = true) (hc : l[1]? = some 45) : pcE (n + 1) l us vs = pcE n (natR (l.drop 2)) us (vs ++ [natV (l.drop 2)]) := by
  conv => lhs; unfold pcE
  rw [if_neg h, if_neg (pcE_ok h3 h4), if_neg (by rw [hb]; simp), if_neg (by rw [hc]; simp), if_pos hc]
theorem pcE_no {n : Nat} {l : List UInt8} {us vs : List Int} (h : l ≠ []) (h3 : 3 ≤ l.length) (h4 : l.head? = some 32) (hb : natB (l.drop 2) = true) (hc : l[1]? ≠ some 43 ∨ vs ≠ []) (hd : l[1]? ≠ some 45) : pcE (n + 1) l us vs = none := by
  unfold pcE
  rw [if_neg h, if_neg (pcE_ok h3 h4), if_neg (by rw [hb]; simp), if_neg (by rintro ⟨x, y⟩; exact hc.elim (fun q => q x) (fun q => q y)), if_neg hd]
-- WALK
set_option maxRecDepth 100000 in
set_option maxHeartbeats 8000000 in
theorem implParseCalendar_any (s : ByteArray) (w : World) (hs : s.size ≤ 1048576) :
    Calls Try.prog 5 #[.string s] w (RetPC s.data.toList w) := by
  obtain ⟨W0, hW0⟩ : ∃ W0, W0 = ((w.alloc (.cells #[.int .i64 0, .int .i64 0, .int .i64 0, .slice none 0 0, .slice none 0 0] 24)).alloc (.cells #[.int .i64 0, .int .i64 0, .int .i64 0, .slice none 0 0, .slice none 0 0] 24)) := ⟨_, rfl⟩
  have H0 : Hid (FSt W0 (w.heap.size + 2) w.heap.size (w.heap.size + 1) 0 0 0 (.slice none 0 0) (.slice none 0 0) [] []) := Lib.hid (by
    rw [hW0]
    exact ⟨⟨by go_simp, by go_simp, by go_simp, by go_simp, by go_simp, fun j => by go_simp, by simp⟩, ⟨by go_simp, by go_simp, by go_simp, by go_simp, by go_simp, fun j => by go_simp, by simp; omega⟩, OwnE.nil, OwnE.nil, fun X h => (by cases h), fun h => (by cases h), fun h => (by cases h), fun h => (by cases h), fun h => (by cases h)⟩)
  have HB0 : Hid (Below w.heap.size w W0) := Lib.hid (by rw [hW0]; go_grown)
  have hgr : w.heap.size ≠ w.heap.size + 1 := by omega
  obtain ⟨l, hl⟩ : ∃ l, l = s.data.toList := ⟨_, rfl⟩
  have HLL := Lib.hid hl
  have HLN : Hid (l.length = s.size) := Lib.hid (by rw [hl]; exact list_of_size s)
  have HG := natural_any s W0 (by omega)
  rw [← hl] at HG
  have HG := Lib.hid HG
  have hHR : (RetPC s.data.toList w) = RetPC l w := by rw [hl]
  rw [hHR]
  clear hHR hl
  go_enter Try.func5, Try.ntmps5
  go_upto_region 3 with fail
  rw [← hW0]
  clear hW0
  obtain ⟨c0, c1, c2, c3, c4, cf, cl⟩ := H0.out.c
  have cf0 := cf 0
  have nb := natV_bd l
  obtain ⟨S1, hS1⟩ : ∃ S1, S1 = natS l := ⟨_, rfl⟩
  have HS1 : Hid (S1.data.toList = natR l) := Lib.hid (by rw [hS1, natS_eq, bs_list])
  have hz1 : S1.size ≤ s.size := by rw [← list_of_size S1, HS1.out, ← HLN.out]; exact natR_le l
  have HS1e := Lib.hid hS1
  clear hS1
  go_wp2_with fail
  refine HG.out.mono ?_
  rintro e w1 ⟨rfl, q1, hq1⟩
  rw [← HS1e.out]
  have H1 : Hid (FSt w1 (w.heap.size + 2) w.heap.size (w.heap.size + 1) 0 0 0 (.slice none 0 0) (.slice none 0 0) [] []) := Lib.hid (by rw [hq1]; exact H0.out.drewN q1)
  have HB1 : Hid (Below w.heap.size w w1) := Lib.hid (by rw [hq1]; exact bel_drewN HB0.out q1)
  clear hq1 c0 c1 c2 c3 c4 cf cl cf0
  obtain ⟨c0, c1, c2, c3, c4, cf, cl⟩ := H1.out.c
  have cf0 := cf 0
  go_upto_region 4 with fail
  obtain ⟨W1, hW1⟩ : ∃ W1, W1 = w1.setCell ⟨w.heap.size + 1, 0, none⟩ (.int .i64 (natV l)) := ⟨_, rfl⟩
  rw [← hW1]
  have H2 : Hid (FSt W1 (w.heap.size + 2) w.heap.size (w.heap.size + 1) (natV l) 0 0 (.slice none 0 0) (.slice none 0 0) [] []) := Lib.hid (by rw [hW1]; exact H1.out.setF hgr _)
  have HB2 : Hid (Below w.heap.size w W1) := Lib.hid (by rw [hW1]; exact HB1.out.setCell (by simp) _)
  clear hW1 c0 c1 c2 c3 c4 cf cl cf0
  cases hb1 : natB l
  · have HR : Hid (psC s.data.toList = none) := Lib.hid (by rw [← pc_eq]; unfold pcC; rw [if_neg]; rw [← HLL.out, hb1]; simp)
    rw [← HLL.out] at HR
    clear hb1
    obtain ⟨z0, z1, z2, z3, z4, zf, zl⟩ := H2.out.z
    have zf0 := zf 0
    have zf1 := zf 1
    have zf2 := zf 2
    have zf3 := zf 3
    have zf4 := zf 4
    go_wp2_with fail
    refine bodyPost_ret (v := .tuple #[.agg #[.int .i64 0, .int .i64 0, .int .i64 0, .slice none 0 0, .slice none 0 0], .bool false]) (by simp [results, Try.results5, go_sem, z0, z1, z2, z3, z4]) rfl ?_
    refine retPC_none HR.out (retCal_zero ?_)
    repeat' (refine Below.setCell ?_ (by simp) _)
    exact HB2.out
  · have HP := hasPrefix_any S1 W1 (by omega)
    rw [HS1.out] at HP
    have HP := Lib.hid HP
    have HNB1 := Lib.hid hb1
    clear hb1
    go_wp2_with fail
    refine HP.out.mono ?_
    rintro e w2 ⟨rfl, hq⟩
    subst hq
    cases hh1 : ((natR l).head? == some 45)
    · have HR : Hid (psC s.data.toList = none) := Lib.hid (by rw [← pc_eq]; unfold pcC; rw [if_neg]; rw [← HLL.out]; rintro ⟨_, h⟩; rw [h] at hh1; simp at hh1)
      rw [← HLL.out] at HR
      clear hh1
      obtain ⟨z0, z1, z2, z3, z4, zf, zl⟩ := H2.out.z
      have zf0 := zf 0
      have zf1 := zf 1
      have zf2 := zf 2
      have zf3 := zf 3
      have zf4 := zf 4
      go_wp2_with fail
      refine bodyPost_ret (v := .tuple #[.agg #[.int .i64 0, .int .i64 0, .int .i64 0, .slice none 0 0, .slice none 0 0], .bool false]) (by simp [results, Try.results5, go_sem, z0, z1, z2, z3, z4]) rfl ?_
      refine retPC_none HR.out (retCal_zero ?_)
      repeat' (refine Below.setCell ?_ (by simp) _)
      exact HB2.out
    · have HH1 : Hid ((natR l).head? = some 45) := Lib.hid (by simpa using hh1)
      have hs1 : 1 ≤ S1.size := by
        have hq := HS1.out
        have h2 := head_cons HH1.out
        rw [← list_of_size S1, hq, h2]
        simp
      obtain ⟨l2, hl2⟩ : ∃ l2, l2 = (natR l).drop 1 := ⟨_, rfl⟩
      have HL2 := Lib.hid hl2
      have HG2 := natural_any (S1.extract 1 S1.size) W1 (by rw [ByteArray.size_extract]; omega)
      rw [ext_list, HS1.out, ← hl2] at HG2
      have HG2 := Lib.hid HG2
      obtain ⟨S2, hS2⟩ : ∃ S2, S2 = natS l2 := ⟨_, rfl⟩
      have HS2 : Hid (S2.data.toList = natR l2) := Lib.hid (by rw [hS2, natS_eq, bs_list])
      have hz2 : S2.size ≤ s.size := by
        have h1 := natR_le l2
        have h2 := natR_le l
        have h3 : l2.length ≤ (natR l).length := by rw [hl2, List.length_drop]; omega
        rw [← list_of_size S2, HS2.out, ← HLN.out]
        omega
      have HS2e := Lib.hid hS2
      have nb2 := natV_bd l2
      obtain ⟨c0, c1, c2, c3, c4, cf, cl⟩ := H2.out.c
      have cf1 := cf 1
      clear hS2 hl2 hh1
      go_wp2_with fail
      refine HG2.out.mono ?_
      rintro e w3 ⟨rfl, q3, hq3⟩
      rw [← HS2e.out]
      have H3 : Hid (FSt w3 (w.heap.size + 2) w.heap.size (w.heap.size + 1) (natV l) 0 0 (.slice none 0 0) (.slice none 0 0) [] []) := Lib.hid (by rw [hq3]; exact H2.out.drewN q3)
      have HB3 : Hid (Below w.heap.size w w3) := Lib.hid (by rw [hq3]; exact bel_drewN HB2.out q3)
      clear hq3 c0 c1 c2 c3 c4 cf cl cf1
      obtain ⟨c0, c1, c2, c3, c4, cf, cl⟩ := H3.out.c
      have cf1 := cf 1
      go_upto_region 7 with fail
      obtain ⟨W3, hW3⟩ : ∃ W3, W3 = w3.setCell ⟨w.heap.size + 1, 1, none⟩ (.int .i64 (natV l2)) := ⟨_, rfl⟩
      rw [← hW3]
      have H4 : Hid (FSt W3 (w.heap.size + 2) w.heap.size (w.heap.size + 1) (natV l) (natV l2) 0 (.slice none 0 0) (.slice none 0 0) [] []) := Lib.hid (by rw [hW3]; exact H3.out.setT hgr _)
      have HB4 : Hid (Below w.heap.size w W3) := Lib.hid (by rw [hW3]; exact HB3.out.setCell (by simp) _)
      clear hW3 c0 c1 c2 c3 c4 cf cl cf1
      have hg2 := get_bt S2
      have HN2 : Hid (¬ (natB l2 = true ∧ 8 ≤ (natR l2).length ∧ (natR l2).head? = some 32) → psC l = none) := Lib.hid (fun h => by
        rw [← pc_eq]
        unfold pcC
        rw [if_pos ⟨HNB1.out, HH1.out⟩, ← HL2.out, if_neg h])
      cases hb2 : natB l2
      · have HR := Lib.hid (HN2.out (by rw [hb2]; simp))
        clear hb2
        obtain ⟨z0, z1, z2, z3, z4, zf, zl⟩ := H4.out.z
        have zf0 := zf 0
        have zf1 := zf 1
        have zf2 := zf 2
        have zf3 := zf 3
        have zf4 := zf 4
        go_wp2_with fail
        refine bodyPost_ret (v := .tuple #[.agg #[.int .i64 0, .int .i64 0, .int .i64 0, .slice none 0 0, .slice none 0 0], .bool false]) (by simp [results, Try.results5, go_sem, z0, z1, z2, z3, z4]) rfl ?_
        refine retPC_none HR.out (retCal_zero ?_)
        repeat' (refine Below.setCell ?_ (by simp) _)
        exact HB4.out
      · by_cases h8 : S2.size < 8
        · have HR := Lib.hid (HN2.out (by rw [← HS2.out, list_of_size]; omega))
          have h8i : ((S2.size : Int) < 8) := by omega
          clear hb2
          obtain ⟨z0, z1, z2, z3, z4, zf, zl⟩ := H4.out.z
          have zf0 := zf 0
          have zf1 := zf 1
          have zf2 := zf 2
          have zf3 := zf 3
          have zf4 := zf 4
          go_wp2_with fail
          refine bodyPost_ret (v := .tuple #[.agg #[.int .i64 0, .int .i64 0, .int .i64 0, .slice none 0 0, .slice none 0 0], .bool false]) (by simp [results, Try.results5, go_sem, z0, z1, z2, z3, z4]) rfl ?_
          refine retPC_none HR.out (retCal_zero ?_)
          repeat' (refine Below.setCell ?_ (by simp) _)
          exact HB4.out
        · have h8i : ¬ ((S2.size : Int) < 8) := by omega
          by_cases h32 : bt S2 0 = 32
          · have HH2 : Hid ((natR l2).head? = some 32) := Lib.hid (by rw [← HS2.out]; exact (head_bt (by omega)).2 h32)
            have hv32 : (bt S2 0 == 32) = true := by rw [h32]; rfl
            have HNB2 := Lib.hid hb2
            clear hb2 h32
            obtain ⟨m, hm⟩ : ∃ m, m = (natR l2).drop 1 := ⟨_, rfl⟩
            have HM := Lib.hid hm
            have HMK : Hid (∀ k, k < 7 → m[k]? = S2.data.toList[1 + k]?) := Lib.hid (fun k hk => by rw [hm, ← HS2.out, List.getElem?_drop])
            have HNK : Hid (wkK m 7 = false → psC l = none) := Lib.hid (fun h => by
              rw [← pc_eq]
              unfold pcC
              rw [if_pos ⟨HNB1.out, HH1.out⟩, ← HL2.out, if_pos ⟨HNB2.out, by rw [← HS2.out, list_of_size]; omega, HH2.out⟩, ← hm, if_neg (by rw [h]; simp)])
            obtain ⟨w4, hw4⟩ : ∃ w4, w4 = W3 := ⟨_, rfl⟩
            rw [← hw4] at H4 HB4 ⊢
            clear hm hw4
            have zl : (⟨#[109, 116, 119, 116, 102, 115, 115]⟩ : ByteArray).size = 7 := rfl
            have hgc := get_bt ⟨#[109, 116, 119, 116, 102, 115, 115]⟩
            go_wp2_with fail
            go_loopw [45] (fun i wr => ∃ k : Nat, k ≤ 7 ∧ i = .int .i64 k ∧ wkK m k = true ∧ Below w.heap.size w wr ∧ FSt wr (w.heap.size + 2) w.heap.size (w.heap.size + 1) (natV l) (natV l2) (wkV m k : Nat) (.slice none 0 0) (.slice none 0 0) [] []) (fun i _ => 7 - (intOf i).toNat)
            case atStart => exact ⟨0, Nat.zero_le _, by go_num, rfl, HB4.out, H4.out⟩
            case round =>
              obtain ⟨k, hk, rfl, hkk, hb5, hst5⟩ := hrel
              have HKK := Lib.hid hkk
              have HB5 := Lib.hid hb5
              have H5 := Lib.hid hst5
              clear hkk hb5 hst5
              by_cases hlt : k < 7
              · have hki : (k : Int) < 7 := by omega
                have hk0 : (0 : Int) ≤ (k : Int) := by omega
                have h1k : 1 + k < S2.size := by omega
                have h1i : (1 : Int) + (k : Int) < (S2.size : Int) := by omega
                have h10 : (0 : Int) ≤ (1 : Int) + (k : Int) := by omega
                have hwk : IntKind.i64.wrap (1 + (k : Int)) = 1 + (k : Int) := IntWalk.i64_in _ (by omega)
                have htk : ((1 : Int) + (k : Int)).toNat = 1 + k := by omega
                have HCK : Hid (bt ⟨#[109, 116, 119, 116, 102, 115, 115]⟩ k = ((wkC k).toNat : Int)) := Lib.hid (wk_bt ⟨k, hlt⟩)
                have HMk : Hid (m[k]? = some S2[1 + k]) := Lib.hid (by rw [HMK.out k hlt]; exact bt_get S2 (1 + k) h1k)
                have hfw := wkV_lt m k hk
                have hpw := pow_small hlt
                obtain ⟨c0, c1, c2, c3, c4, cf, cl⟩ := H5.out.c
                have cf2 := cf 2
                by_cases hA : bt S2 (1 + k) = bt ⟨#[109, 116, 119, 116, 102, 115, 115]⟩ k
                · have vA : (bt S2 (1 + k) == bt ⟨#[109, 116, 119, 116, 102, 115, 115]⟩ k) = true := by rw [hA]; simp
                  have hmw : m[k]? = some (wkC k) := by
                    rw [HMk.out]
                    congr 1
                    apply UInt8.toNat.inj
                    have h1 := get_bt S2 (1 + k) h1k
                    have h2 := HCK.out
                    omega
                  have HV : Hid (wkV m (k + 1) = wkV m k ||| 2 ^ k) := Lib.hid (by conv => lhs; unfold wkV; rw [if_pos hmw])
                  have HK : Hid (wkK m (k + 1) = true) := Lib.hid (by unfold wkK; rw [HKK.out, hmw]; simp)
                  have HOR := Lib.hid (or_pow (wkV m k) k hfw hlt)
                  clear hA hmw
                  go_wp2_with fail
                  go_region
                  rw [HOR.out]
                  go_wp2_with fail
                  go_roundw
                  case rel => first | exact ⟨k + 1, by omega, by go_num, HK.out, HB5.out.setCell (by simp) _, by rw [HV.out]; exact (H5.out).setD hgr _⟩ | exact ⟨k + 1, by omega, by go_num, HK.out, (HB5.out.drewN _).setCell (by simp) _, by rw [HV.out]; exact (H5.out.drewN _).setD hgr _⟩ | exact ⟨k + 1, by omega, by go_num, HK.out, (bel_drewN HB5.out _).setCell (by simp) _, by rw [HV.out]; exact (H5.out.drewN _).setD hgr _⟩
                  case measure => simp [intOf]; omega
                · have vA : (bt S2 (1 + k) == bt ⟨#[109, 116, 119, 116, 102, 115, 115]⟩ k) = false := by simpa using hA
                  have hmw : m[k]? ≠ some (wkC k) := by
                    rw [HMk.out]
                    intro h
                    apply hA
                    simp only [Option.some.injEq] at h
                    have h1 := get_bt S2 (1 + k) h1k
                    have h2 := HCK.out
                    rw [h] at h1
                    omega
                  have HV : Hid (wkV m (k + 1) = wkV m k) := Lib.hid (by conv => lhs; unfold wkV; rw [if_neg hmw])
                  by_cases hD : bt S2 (1 + k) = 46
                  · have vD : (bt S2 (1 + k) == 46) = true := by rw [hD]; rfl
                    have hmd : m[k]? = some 46 := by
                      rw [HMk.out]
                      congr 1
                      apply UInt8.toNat.inj
                      have h1 := get_bt S2 (1 + k) h1k
                      show _ = 46
                      omega
                    have HK : Hid (wkK m (k + 1) = true) := Lib.hid (by unfold wkK; rw [HKK.out, hmd]; simp)
                    clear hA hmw hD hmd
                    go_wp2_with fail
                    go_roundw
                    case rel => exact ⟨k + 1, by omega, by go_num, HK.out, HB5.out, by rw [HV.out]; exact H5.out⟩
                    case measure => simp [intOf]; omega
                  · have vD : (bt S2 (1 + k) == 46) = false := by simpa using hD
                    have hmd : m[k]? ≠ some 46 := by
                      rw [HMk.out]
                      intro h
                      apply hD
                      simp only [Option.some.injEq] at h
                      have h1 := get_bt S2 (1 + k) h1k
                      rw [h] at h1
                      exact h1.symm
                    have HR := Lib.hid (HNK.out (wkK_no hlt (by simp [hmw, hmd])))
                    clear hA hmw hD hmd c0 c1 c2 c3 c4 cf cl cf2
                    obtain ⟨z0, z1, z2, z3, z4, zf, zl⟩ := H5.out.z
                    have zf0 := zf 0
                    have zf1 := zf 1
                    have zf2 := zf 2
                    have zf3 := zf 3
                    have zf4 := zf 4
                    go_wp2_with fail
                    refine bodyPost_ret (v := .tuple #[.agg #[.int .i64 0, .int .i64 0, .int .i64 0, .slice none 0 0, .slice none 0 0], .bool false]) (by simp [results, Try.results5, go_sem, z0, z1, z2, z3, z4]) rfl ?_
                    refine retPC_none HR.out (retCal_zero ?_)
                    repeat' (refine Below.setCell ?_ (by simp) _)
                    exact HB5.out
              · obtain rfl : k = 7 := by omega
                obtain ⟨d, hd⟩ : ∃ d, d = wkV m 7 := ⟨_, rfl⟩
                have HD := Lib.hid hd
                rw [← hd] at H5
                have HND : Hid (∀ r, pcE ((natR l2).length) (m.drop 7) [] [] = r → psC l = match r with | none => none | some (us, vs) => if calB (natV l) (natV l2) (d : Int) us vs = true then some (natV l, natV l2, (d : Int), us, vs) else none) := Lib.hid (fun r hr => by
                  rw [← pc_eq]
                  unfold pcC
                  rw [if_pos ⟨HNB1.out, HH1.out⟩, ← HL2.out, if_pos ⟨HNB2.out, by rw [← HS2.out, list_of_size]; omega, HH2.out⟩, ← HM.out, if_pos HKK.out]
                  have e : (natR l2).drop 8 = m.drop 7 := by rw [HM.out, List.drop_drop]
                  rw [e, hr, ← HD.out]
                  rcases r with _ | ⟨us, vs⟩ <;> rfl)
                have HM7 : Hid ((S2.extract 8 S2.size).data.toList = m.drop 7) := Lib.hid (by rw [ext_list, HS2.out, HM.out, List.drop_drop])
                have HZ2 : Hid ((natR l2).length = S2.size) := Lib.hid (by rw [← HS2.out, list_of_size])
                have hx8 : (S2.extract 8 S2.size).size = S2.size - 8 := by rw [ByteArray.size_extract, Nat.min_self]
                clear hd
                go_wp2_with fail
                go_loopw [0] (fun v wr => ∃ (S : ByteArray) (n : Nat) (us vs : List Int) (va vb : Value), v = .string S ∧ us.length + vs.length + S.size ≤ s.size ∧ S.size < n ∧ pcE n S.data.toList us vs = pcE ((natR l2).length) (m.drop 7) [] [] ∧ Below w.heap.size w wr ∧ FSt wr (w.heap.size + 2) w.heap.size (w.heap.size + 1) (natV l) (natV l2) (d : Int) va vb us vs) (fun v _ => strLen v)
                case atStart => exact ⟨_, (natR l2).length, [], [], _, _, rfl, by simp; omega, by rw [HZ2.out, hx8]; omega, by rw [HM7.out], HB5.out, H5.out⟩
                case round =>
                  obtain ⟨S, n, us, vs, va, vb, rfl, hsz, hn, hpe, hb6, hst6⟩ := hrel
                  obtain ⟨n', hn'⟩ : ∃ n', n = n' + 1 := ⟨n - 1, by omega⟩
                  rw [hn'] at hpe
                  have HPE := Lib.hid hpe
                  have HB6 := Lib.hid hb6
                  have H6 := Lib.hid hst6
                  have HN' := Lib.hid hn'
                  have hll := list_of_size S
                  have HLLS := Lib.hid hll
                  clear hpe hb6 hst6 hn' hll
                  obtain ⟨wo, hwo⟩ : ∃ wo, wo = wr := ⟨_, rfl⟩
                  rw [← hwo] at HB6 H6 ⊢
                  clear hwo
                  have hgS := get_bt S
                  by_cases h0 : S.size = 0
                  · have hnil : S.data.toList = [] := List.length_eq_zero_iff.1 (by rw [HLLS.out]; exact h0)
                    have HRR := Lib.hid (HND.out (some (us, vs)) (by rw [← HPE.out, hnil]; unfold pcE; simp))
                    have he : S.toList.isEmpty = true := by rw [ByteArray.toList_eq, hnil]; rfl
                    clear hnil
                    obtain ⟨A1, ca1, he1, _, _, hi1⟩ := H6.out.u.ints
                    obtain ⟨R1, cr1, he2, _, _, hi2⟩ := H6.out.v.ints
                    subst he1
                    subst he2
                    have HI2 := Lib.hid (IntsIn.at (hi1.to_below (Nat.le_refl _)))
                    have HI3 := Lib.hid (IntsIn.at (hi2.to_below (Nat.le_refl _)))
                    obtain ⟨c0, c1, c2, c3, c4, cf, cl⟩ := H6.out.c
                    have cf0 := cf 0
                    have cf1 := cf 1
                    have cf2 := cf 2
                    have cf3 := cf 3
                    have cf4 := cf 4
                    clear hi1 hi2
                    have hun : us.length ≤ 1048576 := by omega
                    have hvn : vs.length ≤ 1048576 := by omega
                    go_wp2_with fail
                    refine (isValidCalendar_any (natV l) (natV l2) (d : Int) _ _ _ _ us vs _ HI2.out HI3.out (by omega) (by omega)).mono ?_
                    rintro e w6 ⟨rfl, hb6⟩
                    have H7 := Lib.hid (H6.out.call hb6)
                    have HB7 := Lib.hid (HB6.out.trans (hb6.mono HB6.out.size))
                    clear hb6 c0 c1 c2 c3 c4 cf cl cf0 cf1 cf2 cf3 cf4
                    cases hcal : calB (natV l) (natV l2) (d : Int) us vs
                    · have HR : Hid (psC l = none) := Lib.hid (by rw [HRR.out]; show (if calB (natV l) (natV l2) (d : Int) us vs = true then _ else none) = none; rw [hcal]; rfl)
                      obtain ⟨z0, z1, z2, z3, z4, zf, zl⟩ := H7.out.z
                      have zf0 := zf 0
                      have zf1 := zf 1
                      have zf2 := zf 2
                      have zf3 := zf 3
                      have zf4 := zf 4
                      go_wp2_with fail
                      refine bodyPost_ret (v := .tuple #[.agg #[.int .i64 0, .int .i64 0, .int .i64 0, .slice none 0 0, .slice none 0 0], .bool false]) (by simp [results, Try.results5, go_sem, z0, z1, z2, z3, z4]) rfl ?_
                      refine retPC_none HR.out (retCal_zero ?_)
                      repeat' (refine Below.setCell ?_ (by simp) _)
                      exact HB7.out
                    · have HR := Lib.hid (show psC l = some (natV l, natV l2, (d : Int), us, vs) by rw [HRR.out]; show (if calB (natV l) (natV l2) (d : Int) us vs = true then _ else none) = _; rw [hcal]; rfl)
                      obtain ⟨c0, c1, c2, c3, c4, cf, cl⟩ := H7.out.c
                      have cf0 := cf 0
                      have cf1 := cf 1
                      have cf2 := cf 2
                      have cf3 := cf 3
                      have cf4 := cf 4
                      obtain ⟨z0, z1, z2, z3, z4, zf, zl⟩ := H7.out.z
                      have zf0 := zf 0
                      have zf1 := zf 1
                      have zf2 := zf 2
                      have zf3 := zf 3
                      have zf4 := zf 4
                      go_wp2_with fail
                      refine bodyPost_ret (v := .tuple #[.agg #[.int .i64 (natV l), .int .i64 (natV l2), .int .i64 (d : Int), .slice A1 us.length ca1, .slice R1 vs.length cr1], .bool true]) (by simp [results, Try.results5, go_sem, z0, z1, z2, z3, z4]) rfl ?_
                      have hcO := H7.out.calO (lo := w.heap.size + 2) rfl rfl (Nat.le_refl _)
                      refine retPC_some HR.out ⟨A1, ca1, R1, cr1, ?_, ?_, ?_⟩
                      · rfl
                      · refine CalO.wide (lo := w.heap.size + 2) (hi := w6.heap.size) ?_ (by omega) (by simp only [size_set]; exact Nat.le_refl _)
                        repeat' (refine CalO.set ?_ (by simp) _)
                        exact hcO
                      · repeat' (refine Below.setCell ?_ (by simp) _)
                        exact HB7.out
                  · have he : S.toList.isEmpty = false := by
                      rw [ByteArray.toList_eq]
                      cases hq : S.data.toList with
                      | nil => exact absurd (by rw [← HLLS.out, hq]; rfl) h0
                      | cons a b => rfl
                    have HNE : Hid (S.data.toList ≠ []) := Lib.hid (fun h => h0 (by rw [← HLLS.out, h]; rfl))
                    have HRF : Hid (pcE (n' + 1) S.data.toList us vs = none → psC l = none) := Lib.hid (fun h => HND.out none (by rw [← HPE.out]; exact h))
                    by_cases h3 : S.size < 3
                    · have HR := Lib.hid (HRF.out (pcE_short HNE.out (.inl (by rw [HLLS.out]; exact h3))))
                      have h3i : ((S.size : Int) < 3) := by omega
                      obtain ⟨z0, z1, z2, z3, z4, zf, zl⟩ := H6.out.z
                      have zf0 := zf 0
                      have zf1 := zf 1
                      have zf2 := zf 2
                      have zf3 := zf 3
                      have zf4 := zf 4
                      go_wp2_with fail
                      refine bodyPost_ret (v := .tuple #[.agg #[.int .i64 0, .int .i64 0, .int .i64 0, .slice none 0 0, .slice none 0 0], .bool false]) (by simp [results, Try.results5, go_sem, z0, z1, z2, z3, z4]) rfl ?_
                      refine retPC_none HR.out (retCal_zero ?_)
                      repeat' (refine Below.setCell ?_ (by simp) _)
                      exact HB6.out
                    · have h3i : ¬ ((S.size : Int) < 3) := by omega
                      by_cases h32 : bt S 0 = 32
                      · have HL3 : Hid (3 ≤ S.data.toList.length) := Lib.hid (by rw [HLLS.out]; omega)
                        have HH3 : Hid (S.data.toList.head? = some 32) := Lib.hid ((head_bt (by omega)).2 h32)
                        have hv32 : (bt S 0 == 32) = true := by rw [h32]; rfl
                        have HS1g : Hid (S.data.toList[1]? = some S[1]) := Lib.hid (bt_get S 1 (by omega))
                        have HG1 : Hid ((S[1].toNat : Int) = bt S 1) := Lib.hid (get_bt S 1 (by omega))
                        obtain ⟨l3, hl3⟩ : ∃ l3, l3 = S.data.toList.drop 2 := ⟨_, rfl⟩
                        have HL3e := Lib.hid hl3
                        have HG3 := natural_any (S.extract 2 S.size) wo (by rw [ByteArray.size_extract]; omega)
                        rw [ext_list, ← hl3] at HG3
                        have HG3 := Lib.hid HG3
                        obtain ⟨S3, hS3⟩ : ∃ S3, S3 = natS l3 := ⟨_, rfl⟩
                        have HS3 : Hid (S3.data.toList = natR l3) := Lib.hid (by rw [hS3, natS_eq, bs_list])
                        have hz3 : S3.size + 2 ≤ S.size := by
                          have h1 := natR_le l3
                          have h2 : l3.length = S.data.toList.length - 2 := by rw [hl3, List.length_drop]
                          rw [HLLS.out] at h2
                          rw [← list_of_size S3, HS3.out]
                          omega
                        have HS3e := Lib.hid hS3
                        have nb3 := natV_bd l3
                        clear hS3 hl3 h32
                        go_wp2_with fail
                        refine HG3.out.mono ?_
                        rintro e w4 ⟨rfl, q4, hq4⟩
                        rw [← HS3e.out]
                        have H7 : Hid (FSt w4 (w.heap.size + 2) w.heap.size (w.heap.size + 1) (natV l) (natV l2) (d : Int) va vb us vs) := Lib.hid (by rw [hq4]; exact H6.out.drewN q4)
                        have HB7 : Hid (Below w.heap.size w w4) := Lib.hid (by rw [hq4]; exact bel_drewN HB6.out q4)
                        clear hq4
                        cases hb3 : natB l3
                        · have HR := Lib.hid (HRF.out (pcE_bad HNE.out HL3.out HH3.out (by rw [← HL3e.out]; exact hb3)))
                          clear hb3
                          obtain ⟨z0, z1, z2, z3, z4, zf, zl⟩ := H7.out.z
                          have zf0 := zf 0
                          have zf1 := zf 1
                          have zf2 := zf 2
                          have zf3 := zf 3
                          have zf4 := zf 4
                          go_wp2_with fail
                          refine bodyPost_ret (v := .tuple #[.agg #[.int .i64 0, .int .i64 0, .int .i64 0, .slice none 0 0, .slice none 0 0], .bool false]) (by simp [results, Try.results5, go_sem, z0, z1, z2, z3, z4]) rfl ?_
                          refine retPC_none HR.out (retCal_zero ?_)
                          repeat' (refine Below.setCell ?_ (by simp) _)
                          exact HB7.out
                        · have HB3 : Hid (natB (S.data.toList.drop 2) = true) := Lib.hid (by rw [← HL3e.out]; exact hb3)
                          clear hb3
                          obtain ⟨R1, cr1, he2, _, _, _⟩ := H7.out.v.ints
                          subst he2
                          obtain ⟨c0, c1, c2, c3, c4, cf, cl⟩ := H7.out.c
                          have cf3 := cf 3
                          have cf4 := cf 4
                          have e1 : us.length ≤ 16777216 := by omega
                          have e1v : vs.length ≤ 16777216 := by omega
                          have e2 : w.heap.size + 2 ≤ w4.heap.size := by have := H7.out.c.lt; omega
                          by_cases h43 : bt S 1 = 43
                          · have v43 : (bt S 1 == 43) = true := by rw [h43]; rfl
                            have HC : Hid (S.data.toList[1]? = some 43) := Lib.hid (by rw [HS1g.out]; congr 1; apply UInt8.toNat.inj; have := HG1.out; show _ = 43; omega)
                            by_cases hv : vs = []
                            · have hv0 : ((vs.length : Int) == 0) = true := by rw [hv]; rfl
                              have HP : Hid (pcE n' (natR l3) (us ++ [natV l3]) vs = pcE ((natR l2).length) (m.drop 7) [] []) := Lib.hid (by rw [← HPE.out, pcE_pl HNE.out HL3.out HH3.out HB3.out HC.out hv, ← HL3e.out])
                              clear h43 hv
                              go_wp2_with (at_builtin; go_loud (refine wp_appGI rfl _ _ rfl (w.heap.size + 2) _ us (natV l3) _ H7.out.u rfl _ rfl (by simp) e1 e2 ?_; intro v' w' ho' hb' hs' hat' hz'; obtain ⟨A', n2, c', rfl⟩ := OwnE.form ho'; have HN := Lib.hid (H7.out.addU hgr ho' hs' hat' hz'); have HB' := Lib.hid (HB7.out.trans (hb'.mono (by omega))); have q3 := (H7.out.c.kept (hs' (w.heap.size + 1) H7.out.c.lt H7.out.ga) hz').c3; have p3 := (H7.out.c.kept (hs' (w.heap.size + 1) H7.out.c.lt H7.out.ga) hz').fr 3; have hz8 := Nat.le_trans e2 hz'; clear ho' hb' hs' hat' hz'))
                              refine ⟨?_, ?measure⟩
                              iterate 60 (try apply Exists.intro)
                              refine ⟨?rel, ?xx⟩
                              case xx => rfl
                              case rel => exact ⟨S3, n', us ++ [natV l3], vs, _, _, rfl, by simp; omega, by have := HN'.out; omega, by rw [HS3.out]; exact HP.out, HB'.out.setCell (p := ⟨w.heap.size + 1, 3, none⟩) (by simp) _, HN.out⟩
                              case measure => simp [strLen]; omega
                            · have hv0 : ((vs.length : Int) == 0) = false := by
                                cases hq : vs with
                                | nil => exact absurd hq hv
                                | cons a b => simp; omega
                              have HR := Lib.hid (HRF.out (pcE_no HNE.out HL3.out HH3.out HB3.out (.inr hv) (by rw [HC.out]; decide)))
                              have v45 : (bt S 1 == 45) = false := by rw [h43]; rfl
                              clear h43 hv c0 c1 c2 c3 cf3 cl cf e1 e1v e2
                              obtain ⟨z0, z1, z2, z3, z4, zf, zl⟩ := H7.out.z
                              have zf0 := zf 0
                              have zf1 := zf 1
                              have zf2 := zf 2
                              have zf3 := zf 3
                              have zf4 := zf 4
                              go_wp2_with fail
                              refine bodyPost_ret (v := .tuple #[.agg #[.int .i64 0, .int .i64 0, .int .i64 0, .slice none 0 0, .slice none 0 0], .bool false]) (by simp [results, Try.results5, go_sem, z0, z1, z2, z3, z4]) rfl ?_
                              refine retPC_none HR.out (retCal_zero ?_)
                              repeat' (refine Below.setCell ?_ (by simp) _)
                              exact HB7.out
                          · have v43 : (bt S 1 == 43) = false := by simpa using h43
                            have HC3 : Hid (S.data.toList[1]? ≠ some 43) := Lib.hid (by rw [HS1g.out]; intro h; apply h43; have := HG1.out; simp only [Option.some.injEq] at h; rw [h] at this; exact this.symm)
                            by_cases h45 : bt S 1 = 45
                            · have v45 : (bt S 1 == 45) = true := by rw [h45]; rfl
                              have HC : Hid (S.data.toList[1]? = some 45) := Lib.hid (by rw [HS1g.out]; congr 1; apply UInt8.toNat.inj; have := HG1.out; show _ = 45; omega)
                              have HP : Hid (pcE n' (natR l3) us (vs ++ [natV l3]) = pcE ((natR l2).length) (m.drop 7) [] []) := Lib.hid (by rw [← HPE.out, pcE_mi HNE.out HL3.out HH3.out HB3.out HC.out, ← HL3e.out])
                              clear h43 h45
                              go_wp2_with (at_builtin; go_loud (refine wp_appGI rfl _ _ rfl (w.heap.size + 2) _ vs (natV l3) _ H7.out.v rfl _ rfl (by simp) e1v e2 ?_; intro v' w' ho' hb' hs' hat' hz'; obtain ⟨A', n2, c', rfl⟩ := OwnE.form ho'; have HN := Lib.hid (H7.out.addV hgr ho' hs' hat' hz'); have HB' := Lib.hid (HB7.out.trans (hb'.mono (by omega))); have q4 := (H7.out.c.kept (hs' (w.heap.size + 1) H7.out.c.lt H7.out.gb) hz').c4; have p4 := (H7.out.c.kept (hs' (w.heap.size + 1) H7.out.c.lt H7.out.gb) hz').fr 4; have hz8 := Nat.le_trans e2 hz'; clear ho' hb' hs' hat' hz'))
                              refine ⟨?_, ?measure⟩
                              iterate 60 (try apply Exists.intro)
                              refine ⟨?rel, ?xx⟩
                              case xx => rfl
                              case rel => exact ⟨S3, n', us, vs ++ [natV l3], _, _, rfl, by simp; omega, by have := HN'.out; omega, by rw [HS3.out]; exact HP.out, HB'.out.setCell (p := ⟨w.heap.size + 1, 4, none⟩) (by simp) _, HN.out⟩
                              case measure => simp [strLen]; omega
                            · have v45 : (bt S 1 == 45) = false := by simpa using h45
                              have HR := Lib.hid (HRF.out (pcE_no HNE.out HL3.out HH3.out HB3.out (.inl HC3.out) (by rw [HS1g.out]; intro h; apply h45; have := HG1.out; simp only [Option.some.injEq] at h; rw [h] at this; exact this.symm)))
                              clear h43 h45 c0 c1 c2 c3 c4 cf3 cf4 cl cf e1 e1v e2
                              obtain ⟨z0, z1, z2, z3, z4, zf, zl⟩ := H7.out.z
                              have zf0 := zf 0
                              have zf1 := zf 1
                              have zf2 := zf 2
                              have zf3 := zf 3
                              have zf4 := zf 4
                              go_wp2_with fail
                              refine bodyPost_ret (v := .tuple #[.agg #[.int .i64 0, .int .i64 0, .int .i64 0, .slice none 0 0, .slice none 0 0], .bool false]) (by simp [results, Try.results5, go_sem, z0, z1, z2, z3, z4]) rfl ?_
                              refine retPC_none HR.out (retCal_zero ?_)
                              repeat' (refine Below.setCell ?_ (by simp) _)
                              exact HB7.out
                      · have HR := Lib.hid (HRF.out (pcE_short HNE.out (.inr (fun h => h32 ((head_bt (by omega)).1 h)))))
                        have hv32 : (bt S 0 == 32) = false := by simpa using h32
                        clear h32
                        obtain ⟨z0, z1, z2, z3, z4, zf, zl⟩ := H6.out.z
                        have zf0 := zf 0
                        have zf1 := zf 1
                        have zf2 := zf 2
                        have zf3 := zf 3
                        have zf4 := zf 4
                        go_wp2_with fail
                        refine bodyPost_ret (v := .tuple #[.agg #[.int .i64 0, .int .i64 0, .int .i64 0, .slice none 0 0, .slice none 0 0], .bool false]) (by simp [results, Try.results5, go_sem, z0, z1, z2, z3, z4]) rfl ?_
                        refine retPC_none HR.out (retCal_zero ?_)
                        repeat' (refine Below.setCell ?_ (by simp) _)
                        exact HB6.out
          · have HR := Lib.hid (HN2.out (by rintro ⟨_, _, h⟩; rw [← HS2.out] at h; exact h32 ((head_bt (by omega)).1 h)))
            have hv32 : (bt S2 0 == 32) = false := by simpa using h32
            clear hb2 h32
            obtain ⟨z0, z1, z2, z3, z4, zf, zl⟩ := H4.out.z
            have zf0 := zf 0
            have zf1 := zf 1
            have zf2 := zf 2
            have zf3 := zf 3
            have zf4 := zf 4
            go_wp2_with fail
            refine bodyPost_ret (v := .tuple #[.agg #[.int .i64 0, .int .i64 0, .int .i64 0, .slice none 0 0, .slice none 0 0], .bool false]) (by simp [results, Try.results5, go_sem, z0, z1, z2, z3, z4]) rfl ?_
            refine retPC_none HR.out (retCal_zero ?_)
            repeat' (refine Below.setCell ?_ (by simp) _)
            exact HB4.out
end Go.Proofs.Ytpipegdjflniaaa
