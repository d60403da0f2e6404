/- Walking times: the reference's relaxations. -/
import Derived.Test.YtemhcobjhpifpaaFwa
import Derived.Test.YtemhcobjhpifpaaAr2
import Derived.StillTailTactics
import Derived.Deep.LoopGhost
namespace Go.Proofs.Ytemhcobjhpifpaa
open Go.ChangeShapes Go.WideShapes Go.ChangeAt Go.RowKit Go.PlainAid
set_option linter.unusedVariables false

/-- A walk from u to t betters nothing. -/
def clo (o : List Int) (u t : Nat) (m : Int) : Prop := 0 ≤ nth o u → 0 ≤ nth o t ∧ nth o t ≤ nth o u + m
/-- The first i walks better nothing, nor do the first j directions of walk i. -/
def Cls (xs : List I3) (o : List Int) (i j : Nat) : Prop :=
  (∀ k, k < i → ∀ u t : Nat, conn (nth3 xs k) u t → clo o u t (nth3 xs k).c) ∧
  (0 < j → ∀ a b : Nat, (nth3 xs i).a = (a : Int) → (nth3 xs i).b = (b : Int) → clo o a b (nth3 xs i).c) ∧
  (1 < j → ∀ a b : Nat, (nth3 xs i).a = (a : Int) → (nth3 xs i).b = (b : Int) → clo o b a (nth3 xs i).c)
theorem Cls.start {xs : List I3} {o : List Int} : Cls xs o 0 0 := ⟨fun k hk => by omega, fun h => by omega, fun h => by omega⟩
theorem Cls.one {xs : List I3} {o : List Int} {i a b : Nat} (h : Cls xs o i 0) (ha : (nth3 xs i).a = (a : Int)) (hb : (nth3 xs i).b = (b : Int)) (c : clo o a b (nth3 xs i).c) : Cls xs o i 1 :=
  ⟨h.1, fun _ a' b' ha' hb' => by obtain rfl : a = a' := by omega
                                  obtain rfl : b = b' := by omega
                                  exact c, fun h => by omega⟩
theorem Cls.two {xs : List I3} {o : List Int} {i a b : Nat} (h : Cls xs o i 1) (ha : (nth3 xs i).a = (a : Int)) (hb : (nth3 xs i).b = (b : Int)) (c : clo o b a (nth3 xs i).c) : Cls xs o i 2 :=
  ⟨h.1, fun _ => h.2.1 (by omega), fun _ a' b' ha' hb' => by obtain rfl : a = a' := by omega
                                                             obtain rfl : b = b' := by omega
                                                             exact c⟩
theorem Cls.next {xs : List I3} {o : List Int} {i : Nat} (h : Cls xs o i 2) : Cls xs o (i + 1) 0 :=
  ⟨fun k hk u t hc => by
    by_cases e : k = i
    · subst e
      rcases hc with ⟨h1, h2⟩ | ⟨h1, h2⟩
      · exact h.2.1 (by omega) u t h1 h2
      · exact h.2.2 (by omega) t u h1 h2
    · exact h.1 k (by omega) u t hc, fun h => by omega, fun h => by omega⟩
/-- The numbers within a round that began with o0. -/
def LpSt (n : Nat) (xs : List I3) (s : Nat) (o0 : List Int) (i j : Nat) (m : Bool) (o : List Int) : Prop :=
  RelaxAt n xs s o ∧ ((m = false ∧ o = o0 ∧ Cls xs o i j) ∨ (m = true ∧ potI o < potI o0))
/-- The numbers at the head of a round. -/
def HdSt (n : Nat) (xs : List I3) (s : Nat) (gk : Nat) (m : Bool) (o : List Int) : Prop :=
  RelaxAt n xs s o ∧ ((m = true ∧ potI o < gk) ∨ (m = false ∧ Cls xs o xs.length 0))
theorem LpSt.start {n : Nat} {xs : List I3} {s : Nat} {o : List Int} (r : RelaxAt n xs s o) : LpSt n xs s o 0 0 false o := ⟨r, .inl ⟨rfl, rfl, Cls.start⟩⟩
theorem LpSt.step {n : Nat} {xs : List I3} {s : Nat} {o o0 : List Int} {i j i' j' : Nat} {m : Bool} (h : LpSt n xs s o0 i j m o) (f : Cls xs o i j → Cls xs o i' j') : LpSt n xs s o0 i' j' m o :=
  ⟨h.1, h.2.imp (fun ⟨a, b, c⟩ => ⟨a, b, f c⟩) id⟩
theorem LpSt.hd {n : Nat} {xs : List I3} {s : Nat} {o o0 : List Int} {m : Bool} {gk : Nat} (h : LpSt n xs s o0 xs.length 0 m o) (hg : potI o0 < gk) : HdSt n xs s (gk - 1) m o :=
  ⟨h.1, h.2.elim (fun ⟨a, _, c⟩ => .inr ⟨a, c⟩) (fun ⟨a, c⟩ => .inl ⟨a, by omega⟩)⟩
theorem LpSt.put {n : Nat} {xs : List I3} {s : Nat} {o o0 : List Int} {i j i' j' u t : Nat} {m : Bool} {c : Int} (h : LpSt n xs s o0 i j m o) (hn : n ≤ 8) (hu : u < n) (ht : t < n) (e : edgeP xs u t c) (hc1 : 1 ≤ c) (hc2 : c ≤ 120) (h0 : 0 ≤ nth o u) (hb : nth o t < 0 ∨ nth o u + c < nth o t) : LpSt n xs s o0 i' j' true (o.set t (nth o u + c)) := by
  have hr := h.1
  have hi := hr.hi u hu
  have hs := setN_le o
  have hl := hr.len
  have hp := potI_set (o := o) (k := t) (v := nth o u + c) (by omega) (by omega) (by omega) hb
  refine ⟨hr.put hu ht e hc1 hc2 h0 hb, .inr ⟨rfl, ?_⟩⟩
  rcases h.2 with ⟨_, e, _⟩ | ⟨_, e⟩
  · rw [← e]; exact hp
  · omega
theorem LpSt.bd {n : Nat} {xs : List I3} {s : Nat} {o o0 : List Int} {i j : Nat} {m : Bool} (h : LpSt n xs s o0 i j m o) (hn : n ≤ 8) {t : Nat} (ht : t < n) : -1 ≤ nth o t ∧ nth o t ≤ 840 := by
  have h1 := h.1.lo t ht
  have h2 := h.1.hi t ht
  have h3 := setN_le o
  have h4 := h.1.len
  omega
theorem HdSt.fin {n : Nat} {xs : List I3} {s gk : Nat} {o : List Int} (h : HdSt n xs s gk false o) (hw : Wks n xs) (hs : s < n) {t : Nat} (ht : t < n) : nth o t = fw xs n s t := by
  obtain ⟨r, h⟩ := h
  rcases h with ⟨e, _⟩ | ⟨_, c⟩
  · cases e
  · refine IsDist.unique (r.dist fun u t m hu ht he h0 => ?_) (fw_dist hw hs) ht
    obtain ⟨k, hk, hc, rfl⟩ := he
    exact c.1 k hk u t hc h0
theorem RelaxAt.start' {n : Nat} {xs : List I3} {s : Nat} (hs : s < n) : RelaxAt n xs s ((List.replicate n (-1)).set s 0) := by
  have hl : s < (List.replicate n (-1 : Int)).length := by simpa using hs
  have same : nth ((List.replicate n (-1)).set s 0) s = 0 := nth_set_same _ hl
  have ne : ∀ t, t < n → t ≠ s → nth ((List.replicate n (-1)).set s 0) t = -1 := fun t ht h => by
    rw [nth_set_ne _ (fun e => h e.symm), nth_replicate _ ht]
  have hc : setN ((List.replicate n (-1)).set s 0) = setN (List.replicate n (-1)) + 1 := setN_set hl (by rw [nth_replicate _ hs]; decide) (by omega)
  have cs : ∀ t, t < n → (t = s ∧ nth ((List.replicate n (-1)).set s 0) t = 0) ∨ (t ≠ s ∧ nth ((List.replicate n (-1)).set s 0) t = -1) := fun t ht => by
    by_cases e : t = s
    · subst e; exact .inl ⟨rfl, same⟩
    · exact .inr ⟨e, ne t ht e⟩
  refine ⟨by simp, same, fun t ht => ?_, fun t ht => ?_, fun t ht h => ?_⟩
  · rcases cs t ht with ⟨_, e⟩ | ⟨_, e⟩ <;> rw [e] <;> omega
  · rcases cs t ht with ⟨_, e⟩ | ⟨_, e⟩ <;> rw [e, hc] <;> omega
  · rcases cs t ht with ⟨e1, e⟩ | ⟨_, e⟩
    · rw [e, e1]; exact wayP_nil s
    · omega

/-- Numbers in an array of the call's own. -/
def RetA (n : Nat) (F : Nat → Int) (w : World) (e : Ending) (w' : World) : Prop :=
  ∃ g c, e = .returned (.slice (some ⟨g, 0, none⟩) n c) ∧ ArrI w' g n F ∧ w.heap.size ≤ g ∧ n ≤ c ∧ c ≤ 9223372036854775807 ∧ Below w.heap.size w w'

set_option maxRecDepth 100000 in
set_option maxHeartbeats 8000000 in
theorem l7Times_any (x : Nat) (V : Option Addr) (cv s : Nat) (xs : List I3) (w : World) (hV : I3sIn w (Zone.below w.heap.size) V xs) (h8 : x ≤ 8) (hv : xs.length ≤ 1048576) (hw : Wks x xs) (hs : s < x) :
    Calls Try.prog 37 #[.int .i64 (x : Int), .slice V xs.length cv, .int .i64 (s : Int)] w (RetA x (fw xs x s) w) := by
  have HV := Lib.hid hV
  have HW := Lib.hid hw
  have hsx : (s : Int) < (x : Int) := by omega
  have HO0 : Hid (OwnI (w.alloc (.cells #[] 3)) w.heap.size (.slice (some ⟨w.heap.size, 0, none⟩) 0 0) []) := Lib.hid (OwnE.empty (w := w) (Nat.le_refl _))
  have HB0 : Hid (Below w.heap.size w (w.alloc (.cells #[] 3))) := Lib.hid (by go_grown)
  clear hV hw
  go_enter Try.func37, Try.ntmps37
  go_wp2_with fail
  go_loopw [7, 8] (fun v i wr => ∃ k : Nat, k ≤ x ∧ i = .int .i64 k ∧ OwnI wr w.heap.size v (List.replicate k (-1)) ∧ Below w.heap.size w wr) (fun _ i _ => x - (intOf i).toNat)
  case atStart => exact ⟨0, Nat.zero_le _, rfl, HO0.out, HB0.out⟩
  case round =>
    obtain ⟨k, hk, rfl, ho, hb⟩ := hrel
    have HO := Lib.hid ho
    have HB := Lib.hid hb
    have hzb := hb.size
    by_cases hlt : k < x
    · have hik : (k : Int) < (x : Int) := by omega
      have HR : Hid (List.replicate (k + 1) (-1 : Int) = List.replicate k (-1) ++ [-1]) := Lib.hid List.replicate_succ'
      have hrl : (List.replicate k (-1 : Int)).length ≤ 16777216 := by simp; omega
      clear ho hb
      go_wp2_with (at_builtin; refine wp_appI rfl _ _ rfl w.heap.size _ (List.replicate k (-1)) (-1) _ HO.out rfl _ rfl (by simp) hrl (by omega) ?_; intro v' w' ho' hb'; have HO' := Lib.hid ho'; have HB' := Lib.hid (HB.out.trans hb'); clear ho' hb')
      go_roundw
      case rel => exact ⟨k + 1, by omega, by go_num, by rw [HR.out]; exact HO'.out, HB'.out⟩
      case measure => simp [intOf]; omega
    · obtain rfl : k = x := by omega
      obtain ⟨g, c1, rfl, ha, hgg, hcl, hcm⟩ := ho.arr (by simp; omega)
      rw [List.length_replicate] at ha hcl ⊢
      have hcs := ha.cells s hs
      have hfr := ha.free s
      have HA : Hid (ArrI (wr.setCell ⟨g, s, none⟩ (.int .i64 0)) g k (nth ((List.replicate k (-1)).set s 0))) := Lib.hid (ha.put (by simp) hs 0)
      have HB1 := Lib.hid (hb.setCell (p := ⟨g, s, none⟩) hgg (.int .i64 0))
      have HST : Hid (HdSt k xs s (potI ((List.replicate k (-1)).set s 0) + 1) true ((List.replicate k (-1)).set s 0)) := Lib.hid ⟨RelaxAt.start' hs, .inl ⟨rfl, by omega⟩⟩
      have HCL := Lib.hid (And.intro hcl hcm)
      clear ho hb ha hcl hcm hzb HO
      go_wp2_with fail
      generalize wr.setCell ⟨g, s, none⟩ (.int .i64 0) = w0 at *
      clear hcs hfr hk hlt
      obtain ⟨x, rfl⟩ : ∃ x, x = k := ⟨_, rfl⟩
      go_loopg [9] (potI ((List.replicate x (-1)).set s 0) + 1) (fun gk mo wr => ∃ m : Bool, mo = .bool m ∧ ∃ o, HdSt x xs s gk m o ∧ ArrI wr g x (nth o) ∧ Below w.heap.size w wr)
      case atStart => exact ⟨true, rfl, _, HST.out, HA.out, HB1.out⟩
      case round =>
        obtain ⟨m, rfl, o, hst, hao, hb⟩ := hrel
        have HSTO := Lib.hid hst
        have HAO3 := Lib.hid hao
        have HB3 := Lib.hid hb
        cases m
        · clear hst hao hb
          go_wp2_with fail
          go_ret
          exact ⟨g, c1, rfl, HAO3.out.congr (fun t ht => HSTO.out.fin HW.out hs ht), hgg, HCL.out.1, HCL.out.2, HB3.out⟩
        · have hpot : potI o < gk := by
            rcases hst.2 with ⟨_, h⟩ | ⟨h, _⟩
            · exact h
            · cases h
          have HPOT := Lib.hid hpot
          have HL0 := Lib.hid (LpSt.start hst.1)
          clear hst hao hb hpot
          go_wp2_with fail
          go_loopw [9, 10] (fun mo i wi => ∃ k : Nat, k ≤ xs.length ∧ i = .int .i64 k ∧ (∃ m : Bool, mo = .bool m ∧ ∃ o', LpSt x xs s o k 0 m o' ∧ ArrI wi g x (nth o')) ∧ Below w.heap.size w wi) (fun _ i _ => xs.length - (intOf i).toNat)
          case atStart => exact ⟨0, Nat.zero_le _, rfl, ⟨false, rfl, _, HL0.out, HAO3.out⟩, HB3.out⟩
          case round =>
            obtain ⟨k, hk, rfl, ⟨m, rfl, o1, hls, hao⟩, hb⟩ := hrel
            have HLS1 := Lib.hid hls
            have HAO1 := Lib.hid hao
            have HBB := Lib.hid hb
            by_cases hlt : k < xs.length
            · have hik : (k : Int) < (xs.length : Int) := by omega
              obtain ⟨b, of, rfl, hbl, hc0, hc1, hc2⟩ := I3sIn.at (HV.out.at_below hb) hlt
              have hok := HW.out.ok k hlt
              unfold WkOk at hok
              obtain ⟨a', ha'⟩ : ∃ a' : Nat, (nth3 xs k).a = (a' : Int) := ⟨(nth3 xs k).a.toNat, by omega⟩
              obtain ⟨b', hb'⟩ : ∃ b' : Nat, (nth3 xs k).b = (b' : Int) := ⟨(nth3 xs k).b.toNat, by omega⟩
              obtain ⟨c, hc⟩ : ∃ c, c = (nth3 xs k).c := ⟨_, rfl⟩
              rw [ha'] at hc0
              rw [hb'] at hc1
              rw [← hc] at hc2
              have hal : a' < x := by omega
              have hbl2 : b' < x := by omega
              have hai : (a' : Int) < (x : Int) := by omega
              have hbi : (b' : Int) < (x : Int) := by omega
              have hcc1 : 1 ≤ c := by omega
              have hcc2 : c ≤ 120 := by omega
              have HPA := Lib.hid ha'
              have HPB := Lib.hid hb'
              have HC := Lib.hid hc
              have HCC : Hid (wr.cell? ⟨b, of + k * 3, none⟩ = some (.int .i64 (a' : Int)) ∧ wr.cell? ⟨b, of + k * 3 + 1, none⟩ = some (.int .i64 (b' : Int)) ∧ wr.cell? ⟨b, of + k * 3 + 2, none⟩ = some (.int .i64 c)) := Lib.hid ⟨hc0, hc1, hc2⟩
              have hblw : b < w.heap.size := hbl
              have HK : Hid (∀ w', Below w.heap.size w w' → w'.cell? ⟨b, of + k * 3, none⟩ = some (.int .i64 (a' : Int)) ∧ w'.cell? ⟨b, of + k * 3 + 1, none⟩ = some (.int .i64 (b' : Int)) ∧ w'.cell? ⟨b, of + k * 3 + 2, none⟩ = some (.int .i64 c)) := Lib.hid (fun w' h =>
                ⟨((h.cell (p := ⟨b, _, none⟩) hblw).trans (HBB.out.cell (p := ⟨b, _, none⟩) hblw).symm).trans HCC.out.1, ((h.cell (p := ⟨b, _, none⟩) hblw).trans (HBB.out.cell (p := ⟨b, _, none⟩) hblw).symm).trans HCC.out.2.1, ((h.cell (p := ⟨b, _, none⟩) hblw).trans (HBB.out.cell (p := ⟨b, _, none⟩) hblw).symm).trans HCC.out.2.2⟩)
              clear hls hao hb hok ha' hb' hc
              go_wp2_with fail
              go_quiet (fail)
              go_wp2_with fail
              have HAQ := Lib.hid (HAO1.out.drewN nq)
              have HBQ := Lib.hid (bel_drewN HBB.out nq)
              clear hc0 hc1 hc2 HAO1 HBB
              generalize wr.drewN nq = wq at *
              go_loopw [9, 11, 12, 13] (fun mo va vb t wi => ∃ j : Nat, j ≤ 2 ∧ t = .int .i64 j ∧ (∃ m : Bool, mo = .bool m ∧ ∃ o', LpSt x xs s o k j m o' ∧ ArrI wi g x (nth o')) ∧ va = .int .i64 (if j = 0 then (a' : Int) else (b' : Int)) ∧ vb = .int .i64 (if j = 0 then (b' : Int) else (a' : Int)) ∧ Below w.heap.size w wi) (fun _ _ _ t _ => 2 - (intOf t).toNat)
              case atStart => exact ⟨0, by omega, rfl, ⟨m, rfl, o1, HLS1.out, HAQ.out⟩, rfl, rfl, HBQ.out⟩
              case round =>
                obtain ⟨j, hj, rfl, ⟨m, rfl, o', hls, hao⟩, rfl, rfl, hb⟩ := hrel
                have HLS := Lib.hid hls
                have HAO := Lib.hid hao
                have HB4 := Lib.hid hb
                clear hls
                rcases (by omega : j = 0 ∨ j = 1 ∨ j = 2) with rfl | rfl | rfl
                · rw [if_pos rfl, if_pos rfl]
                  have c0 := hao.cells a' hal
                  have c1 := hao.cells b' hbl2
                  have c2 := hao.free b'
                  have hgl := hao.lt
                  obtain ⟨hc0, hc1, hc2⟩ := HK.out _ hb
                  have b1 := HLS.out.bd h8 hal
                  have b2 := HLS.out.bd h8 hbl2
                  obtain ⟨p, hp⟩ : ∃ p, p = nth o' a' := ⟨_, rfl⟩
                  obtain ⟨q, hq⟩ : ∃ q, q = nth o' b' := ⟨_, rfl⟩
                  rw [← hp] at c0 b1
                  rw [← hq] at c1 b2
                  obtain ⟨b1a, b1b⟩ := b1
                  obtain ⟨b2a, b2b⟩ := b2
                  have HP := Lib.hid hp
                  have HQ := Lib.hid hq
                  have HE : Hid (edgeP xs a' b' c) := Lib.hid ⟨k, hlt, Or.inl ⟨HPA.out, HPB.out⟩, HC.out.symm⟩
                  have hs1 : IntKind.i64.wrap (p + c) = p + c := IntWalk.i64_in _ (by omega)
                  clear hp hq hao hb
                  by_cases t1 : 0 ≤ p
                  · have HPT : (q < 0 ∨ p + c < q) → Hid (LpSt x xs s o k 1 true (o'.set b' (p + c))) := fun h => Lib.hid (by
                      have hh := HLS.out.put (i' := k) (j' := 1) h8 hal hbl2 HE.out hcc1 hcc2 (by rw [← HP.out]; exact t1) (by rw [← HP.out, ← HQ.out]; exact h)
                      rw [← HP.out] at hh
                      exact hh)
                    have HAP := Lib.hid (fun (w' : World) (h : ArrI w' g x (nth o')) => h.put HLS.out.1.len hbl2 (p + c))
                    by_cases t2 : q < 0
                    · have HN := HPT (.inl t2)
                      clear HPT
                      have d1 : decide (0 ≤ p) = true := by simpa using t1
                      have d2 : decide (q < 0) = true := by simpa using t2
                      go_wp2_with fail
                      go_quiet (fail)
                      go_wp2_with fail
                      have HA1 := Lib.hid (HAO.out.drewN nq)
                      have HB5 := Lib.hid (bel_drewN HB4.out nq)
                      have e0 : (wr.drewN nq).cell? ⟨g, a', none⟩ = some (.int .i64 p) := c0
                      have e1 : (wr.drewN nq).cell? ⟨g, b', none⟩ = some (.int .i64 q) := c1
                      have e2 : (wr.drewN nq).frozen? ⟨g, b', none⟩ = false := c2
                      have hz5 : g < (wr.drewN nq).heap.size := hgl
                      obtain ⟨f0, f1, f2⟩ := HK.out _ HB5.out
                      clear c0 c1 c2 hc0 hc1 hc2
                      generalize wr.drewN nq = w1 at *
                      go_still_tail 13, (by kernel_rfl)
                      have HA2 := Lib.hid (HAP.out _ (HA1.out.drewN 1))
                      have HB6 := Lib.hid (HB5.out.drew.setCell (p := ⟨g, b', none⟩) hgg (.int .i64 (p + c)))
                      obtain ⟨g0, g1, g2⟩ := HK.out _ HB6.out
                      go_wp2_with fail
                      go_roundw
                      case rel => exact ⟨1, by omega, rfl, ⟨true, rfl, _, HN.out, HA2.out⟩, rfl, rfl, HB6.out⟩
                      case measure => simp [intOf]
                    · by_cases t3 : p + c < q
                      · have HN := HPT (.inr t3)
                        clear HPT
                        have d1 : decide (0 ≤ p) = true := by simpa using t1
                        have d2 : decide (q < 0) = false := by simpa using t2
                        have d3 : decide (p + c < q) = true := by simpa using t3
                        go_wp2_with fail
                        go_quiet (fail)
                        go_wp2_with fail
                        have HA1 := Lib.hid (HAO.out.drewN nq)
                        have HB5 := Lib.hid (bel_drewN HB4.out nq)
                        have e0 : (wr.drewN nq).cell? ⟨g, a', none⟩ = some (.int .i64 p) := c0
                        have e1 : (wr.drewN nq).cell? ⟨g, b', none⟩ = some (.int .i64 q) := c1
                        have e2 : (wr.drewN nq).frozen? ⟨g, b', none⟩ = false := c2
                        have hz5 : g < (wr.drewN nq).heap.size := hgl
                        obtain ⟨f0, f1, f2⟩ := HK.out _ HB5.out
                        clear c0 c1 c2 hc0 hc1 hc2
                        generalize wr.drewN nq = w1 at *
                        go_still_tail 13, (by kernel_rfl)
                        have HA2 := Lib.hid (HAP.out _ (HA1.out.drewN 1))
                        have HB6 := Lib.hid (HB5.out.drew.setCell (p := ⟨g, b', none⟩) hgg (.int .i64 (p + c)))
                        obtain ⟨g0, g1, g2⟩ := HK.out _ HB6.out
                        go_wp2_with fail
                        go_roundw
                        case rel => exact ⟨1, by omega, rfl, ⟨true, rfl, _, HN.out, HA2.out⟩, rfl, rfl, HB6.out⟩
                        case measure => simp [intOf]
                      · have HN : Hid (LpSt x xs s o k 1 m o') := Lib.hid (HLS.out.step (fun h => Cls.one h HPA.out HPB.out (fun _ => by rw [← HP.out, ← HQ.out, ← HC.out]; omega)))
                        have d1 : decide (0 ≤ p) = true := by simpa using t1
                        have d2 : decide (q < 0) = false := by simpa using t2
                        have d3 : decide (p + c < q) = false := by simpa using t3
                        go_wp2_with fail
                        go_quiet (fail)
                        go_wp2_with fail
                        go_roundw
                        case rel => exact ⟨1, by omega, rfl, ⟨m, rfl, o', HN.out, HAO.out.drewN _⟩, rfl, rfl, bel_drewN HB4.out _⟩
                        case measure => simp [intOf]
                  · have HN : Hid (LpSt x xs s o k 1 m o') := Lib.hid (HLS.out.step (fun h => Cls.one h HPA.out HPB.out (fun hh => by rw [← HP.out] at hh; omega)))
                    have d1 : decide (0 ≤ p) = false := by simpa using t1
                    go_wp2_with fail
                    go_quiet (fail)
                    go_wp2_with fail
                    go_roundw
                    case rel => exact ⟨1, by omega, rfl, ⟨m, rfl, o', HN.out, HAO.out.drewN _⟩, rfl, rfl, bel_drewN HB4.out _⟩
                    case measure => simp [intOf]
                · rw [if_neg (by omega), if_neg (by omega)]
                  have c0 := hao.cells b' hbl2
                  have c1 := hao.cells a' hal
                  have c2 := hao.free a'
                  have hgl := hao.lt
                  obtain ⟨hc0, hc1, hc2⟩ := HK.out _ hb
                  have b1 := HLS.out.bd h8 hbl2
                  have b2 := HLS.out.bd h8 hal
                  obtain ⟨p, hp⟩ : ∃ p, p = nth o' b' := ⟨_, rfl⟩
                  obtain ⟨q, hq⟩ : ∃ q, q = nth o' a' := ⟨_, rfl⟩
                  rw [← hp] at c0 b1
                  rw [← hq] at c1 b2
                  obtain ⟨b1a, b1b⟩ := b1
                  obtain ⟨b2a, b2b⟩ := b2
                  have HP := Lib.hid hp
                  have HQ := Lib.hid hq
                  have HE : Hid (edgeP xs b' a' c) := Lib.hid ⟨k, hlt, Or.inr ⟨HPA.out, HPB.out⟩, HC.out.symm⟩
                  have hs1 : IntKind.i64.wrap (p + c) = p + c := IntWalk.i64_in _ (by omega)
                  clear hp hq hao hb
                  by_cases t1 : 0 ≤ p
                  · have HPT : (q < 0 ∨ p + c < q) → Hid (LpSt x xs s o k 2 true (o'.set a' (p + c))) := fun h => Lib.hid (by
                      have hh := HLS.out.put (i' := k) (j' := 2) h8 hbl2 hal HE.out hcc1 hcc2 (by rw [← HP.out]; exact t1) (by rw [← HP.out, ← HQ.out]; exact h)
                      rw [← HP.out] at hh
                      exact hh)
                    have HAP := Lib.hid (fun (w' : World) (h : ArrI w' g x (nth o')) => h.put HLS.out.1.len hal (p + c))
                    by_cases t2 : q < 0
                    · have HN := HPT (.inl t2)
                      clear HPT
                      have d1 : decide (0 ≤ p) = true := by simpa using t1
                      have d2 : decide (q < 0) = true := by simpa using t2
                      go_wp2_with fail
                      go_quiet (fail)
                      go_wp2_with fail
                      have HA1 := Lib.hid (HAO.out.drewN nq)
                      have HB5 := Lib.hid (bel_drewN HB4.out nq)
                      have e0 : (wr.drewN nq).cell? ⟨g, b', none⟩ = some (.int .i64 p) := c0
                      have e1 : (wr.drewN nq).cell? ⟨g, a', none⟩ = some (.int .i64 q) := c1
                      have e2 : (wr.drewN nq).frozen? ⟨g, a', none⟩ = false := c2
                      have hz5 : g < (wr.drewN nq).heap.size := hgl
                      obtain ⟨f0, f1, f2⟩ := HK.out _ HB5.out
                      clear c0 c1 c2 hc0 hc1 hc2
                      generalize wr.drewN nq = w1 at *
                      go_still_tail 13, (by kernel_rfl)
                      have HA2 := Lib.hid (HAP.out _ (HA1.out.drewN 1))
                      have HB6 := Lib.hid (HB5.out.drew.setCell (p := ⟨g, a', none⟩) hgg (.int .i64 (p + c)))
                      obtain ⟨g0, g1, g2⟩ := HK.out _ HB6.out
                      go_wp2_with fail
                      go_roundw
                      case rel => exact ⟨2, by omega, rfl, ⟨true, rfl, _, HN.out, HA2.out⟩, rfl, rfl, HB6.out⟩
                      case measure => simp [intOf]
                    · by_cases t3 : p + c < q
                      · have HN := HPT (.inr t3)
                        clear HPT
                        have d1 : decide (0 ≤ p) = true := by simpa using t1
                        have d2 : decide (q < 0) = false := by simpa using t2
                        have d3 : decide (p + c < q) = true := by simpa using t3
                        go_wp2_with fail
                        go_quiet (fail)
                        go_wp2_with fail
                        have HA1 := Lib.hid (HAO.out.drewN nq)
                        have HB5 := Lib.hid (bel_drewN HB4.out nq)
                        have e0 : (wr.drewN nq).cell? ⟨g, b', none⟩ = some (.int .i64 p) := c0
                        have e1 : (wr.drewN nq).cell? ⟨g, a', none⟩ = some (.int .i64 q) := c1
                        have e2 : (wr.drewN nq).frozen? ⟨g, a', none⟩ = false := c2
                        have hz5 : g < (wr.drewN nq).heap.size := hgl
                        obtain ⟨f0, f1, f2⟩ := HK.out _ HB5.out
                        clear c0 c1 c2 hc0 hc1 hc2
                        generalize wr.drewN nq = w1 at *
                        go_still_tail 13, (by kernel_rfl)
                        have HA2 := Lib.hid (HAP.out _ (HA1.out.drewN 1))
                        have HB6 := Lib.hid (HB5.out.drew.setCell (p := ⟨g, a', none⟩) hgg (.int .i64 (p + c)))
                        obtain ⟨g0, g1, g2⟩ := HK.out _ HB6.out
                        go_wp2_with fail
                        go_roundw
                        case rel => exact ⟨2, by omega, rfl, ⟨true, rfl, _, HN.out, HA2.out⟩, rfl, rfl, HB6.out⟩
                        case measure => simp [intOf]
                      · have HN : Hid (LpSt x xs s o k 2 m o') := Lib.hid (HLS.out.step (fun h => Cls.two h HPA.out HPB.out (fun _ => by rw [← HP.out, ← HQ.out, ← HC.out]; omega)))
                        have d1 : decide (0 ≤ p) = true := by simpa using t1
                        have d2 : decide (q < 0) = false := by simpa using t2
                        have d3 : decide (p + c < q) = false := by simpa using t3
                        go_wp2_with fail
                        go_quiet (fail)
                        go_wp2_with fail
                        go_roundw
                        case rel => exact ⟨2, by omega, rfl, ⟨m, rfl, o', HN.out, HAO.out.drewN _⟩, rfl, rfl, bel_drewN HB4.out _⟩
                        case measure => simp [intOf]
                  · have HN : Hid (LpSt x xs s o k 2 m o') := Lib.hid (HLS.out.step (fun h => Cls.two h HPA.out HPB.out (fun hh => by rw [← HP.out] at hh; omega)))
                    have d1 : decide (0 ≤ p) = false := by simpa using t1
                    go_wp2_with fail
                    go_quiet (fail)
                    go_wp2_with fail
                    go_roundw
                    case rel => exact ⟨2, by omega, rfl, ⟨m, rfl, o', HN.out, HAO.out.drewN _⟩, rfl, rfl, bel_drewN HB4.out _⟩
                    case measure => simp [intOf]
                · have HN := Lib.hid (HLS.out.step Cls.next)
                  clear hao hb
                  go_wp2_with fail
                  go_roundw
                  case rel => exact ⟨k + 1, by omega, by go_num, ⟨m, rfl, o', HN.out, HAO.out⟩, HB4.out⟩
                  case measure => simp [intOf]; omega
            · obtain rfl : k = xs.length := by omega
              have HN := Lib.hid (hls.hd HPOT.out)
              have hgk : gk - 1 < gk := by have := HPOT.out; omega
              clear hls hao hb
              go_wp2_with fail
              go_roundg (gk - 1)
              case measure => exact hgk
              case rel => exact ⟨m, rfl, o1, HN.out, HAO1.out, HBB.out⟩

end Go.Proofs.Ytemhcobjhpifpaa
