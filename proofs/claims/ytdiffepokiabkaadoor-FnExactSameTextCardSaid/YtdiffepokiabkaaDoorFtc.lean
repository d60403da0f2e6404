/- The text of a timetable: the program. -/
import Derived.Test.YtdiffepokiabkaaDoorFta
import Derived.Test.YtdiffepokiabkaaDoorStt
namespace Go.Proofs.YtdiffepokiabkaaDoor
open Go.ChangeShapes Go.WideShapes Go.ChangeAt Go.RowKit Go.PlainAid
set_option linter.unusedVariables false
set_option linter.unusedSimpArgs false

theorem empty_add (a : ByteArray) : (⟨#[]⟩ : ByteArray) ++ a = a := by
  apply ByteArray.ext
  rw [ByteArray.data_append]
  simp
/-- What stands while a trip's words are made: all below B, and the trip's box. -/
def TS (B g : Nat) (o : Obj) (w0 w : World) : Prop := Below B w0 w ∧ w.heap[g]? = some o
theorem TS.drew {B g : Nat} {o : Obj} {w0 w : World} (h : TS B g o w0 w) : TS B g o w0 w.drew := ⟨h.1.drew, h.2⟩
theorem TS.drewN {B g : Nat} {o : Obj} {w0 w : World} (h : TS B g o w0 w) (n : Nat) : TS B g o w0 (w.drewN n) := ⟨below_drewNC h.1 n, h.2⟩
theorem TS.call {B g : Nat} {o : Obj} {w0 w w' : World} (h : TS B g o w0 w) (hb : Below w.heap.size w w') (hB : B ≤ w.heap.size) : TS B g o w0 w' := ⟨h.1.trans (hb.mono hB), by rw [hb.block g (Array.getElem?_eq_some_iff.1 h.2).1]; exact h.2⟩
theorem lineOfT_any (B0 : Nat) (x : TTD) (A L T : Option Addr) (ca cl ct : Nat) (k : Nat) (w : World) (hL : LinesIn w (Zone.below B0) L x.net.lines) (hB : B0 ≤ w.heap.size) (hi : Ti x k) (hm : x.net.lines.length ≤ 1048576) :
    Calls Tryd.prog 96 #[.agg #[.slice A x.net.stops.length ca, .slice L x.net.lines.length cl, .slice T x.trips.length ct], .agg #[.int .i64 (nth3 x.trips k).a, .int .i64 (nth3 x.trips k).b, .int .i64 (nth3 x.trips k).c]] w (RetLineB B0 (lnI x k) w) :=
  lineOf_any B0 x A L T ca cl ct (nth3 x.trips k) w hL hB hi.b0 hi.b1 hm

set_option maxRecDepth 100000 in
set_option maxHeartbeats 4000000 in
theorem formatTimetable_any (x : TTD) (A L T : Option Addr) (ca cl ct : Nat) (w : World) (hA : StrsIn w (Zone.below w.heap.size) A x.net.stops) (hL : LinesIn w (Zone.below w.heap.size) L x.net.lines) (hT : I3sIn w (Zone.below w.heap.size) T x.trips) (hx : FitsT x) (g : ttB x = true) (HT0 : Pow10 w) :
    Calls Tryd.prog 54 #[.agg #[.slice A x.net.stops.length ca, .slice L x.net.lines.length cl, .slice T x.trips.length ct]] w fun e w' => e = .returned (.string (timT x)) ∧ Below w.heap.size w w' := by
  have H0 : Hid (TtBox w (w.alloc (.cells #[.slice A x.net.stops.length ca, .slice L x.net.lines.length cl, .slice T x.trips.length ct] 33)) w.heap.size x A ca L cl T ct) := Lib.hid (TtBox.box hA hL hT)
  have hn := hx.trips
  have hm := hx.net.lines
  have HXN := Lib.hid hx.net
  have HG := Lib.hid g
  have HGN := Lib.hid (ttB_ok g).1
  have HT := Lib.hid HT0
  have z1 : (⟨#[116, 114, 105, 112, 32]⟩ : ByteArray).size = 5 := rfl
  have z2 : (⟨#[10]⟩ : ByteArray).size = 1 := rfl
  have z3 : (⟨#[32]⟩ : ByteArray).size = 1 := rfl
  have hz0 : (w.alloc (.cells #[.slice A x.net.stops.length ca, .slice L x.net.lines.length cl, .slice T x.trips.length ct] 33)).heap.size = w.heap.size + 1 := by simp
  have BD0 : Hid (BldS (w.alloc (.cells #[.slice A x.net.stops.length ca, .slice L x.net.lines.length cl, .slice T x.trips.length ct] 33)).heap.size (w.alloc (.cells #[.slice A x.net.stops.length ca, .slice L x.net.lines.length cl, .slice T x.trips.length ct] 33)).heap.size ⟨#[]⟩ ((w.alloc (.cells #[.slice A x.net.stops.length ca, .slice L x.net.lines.length cl, .slice T x.trips.length ct] 33)).alloc (.cells #[.pointer none, .slice none 0 0] 106))) := Lib.hid (Lib.fresh_isBuilder 106 5 (w.alloc (.cells #[.slice A x.net.stops.length ca, .slice L x.net.lines.length cl, .slice T x.trips.length ct] 33)))
  have hb1 : Below (w.alloc (.cells #[.slice A x.net.stops.length ca, .slice L x.net.lines.length cl, .slice T x.trips.length ct] 33)).heap.size (w.alloc (.cells #[.slice A x.net.stops.length ca, .slice L x.net.lines.length cl, .slice T x.trips.length ct] 33)) ((w.alloc (.cells #[.slice A x.net.stops.length ca, .slice L x.net.lines.length cl, .slice T x.trips.length ct] 33)).alloc (.cells #[.pointer none, .slice none 0 0] 106)) := by go_grown
  have H1 : Hid (TtBox w ((w.alloc (.cells #[.slice A x.net.stops.length ca, .slice L x.net.lines.length cl, .slice T x.trips.length ct] 33)).alloc (.cells #[.pointer none, .slice none 0 0] 106)) w.heap.size x A ca L cl T ct) := Lib.hid (H0.out.call hb1)
  have hz1 : w.heap.size + 1 ≤ ((w.alloc (.cells #[.slice A x.net.stops.length ca, .slice L x.net.lines.length cl, .slice T x.trips.length ct] 33)).alloc (.cells #[.pointer none, .slice none 0 0] 106)).heap.size := by simp
  have c0 : ((w.alloc (.cells #[.slice A x.net.stops.length ca, .slice L x.net.lines.length cl, .slice T x.trips.length ct] 33)).alloc (.cells #[.pointer none, .slice none 0 0] 106)).cell? ⟨w.heap.size, 0, none⟩ = some (.slice A x.net.stops.length ca) := H1.out.cells.1
  have c1 : ((w.alloc (.cells #[.slice A x.net.stops.length ca, .slice L x.net.lines.length cl, .slice T x.trips.length ct] 33)).alloc (.cells #[.pointer none, .slice none 0 0] 106)).cell? ⟨w.heap.size, 1, none⟩ = some (.slice L x.net.lines.length cl) := H1.out.cells.2.1
  rw [hz0] at BD0 hb1
  clear hA hL hT hx g HT0 hb1
  go_enter Tryd.func54, Tryd.ntmps54
  go_wp2_with fail
  generalize ((w.alloc (.cells #[.slice A x.net.stops.length ca, .slice L x.net.lines.length cl, .slice T x.trips.length ct] 33)).alloc (.cells #[.pointer none, .slice none 0 0] 106)) = w1 at *
  clear hz0 H0 c0 c1
  refine (formatNetwork_any x.net _ _ _ _ _ H1.out.stops H1.out.lines HXN.out HGN.out (HT.out.call H1.out.bel)).mono ?_
  rintro e w2 ⟨rfl, hb2⟩
  have H2 := Lib.hid (H1.out.call hb2)
  have BD2 := Lib.hid (BD0.out.call hb2)
  have hz2 := Nat.le_trans hz1 hb2.size
  have hns := (netT_size (ntX_of HGN.out)).2
  have z0 : (⟨#[]⟩ : ByteArray).size = 0 := rfl
  have hw := writeString_any (w.heap.size + 1) (w.heap.size + 1) ⟨#[]⟩ (netT x.net) w2 BD2.out (by rw [z0]; omega) hz2
  clear hb2 z0
  go_wp2_with fail
  refine hw.mono ?_
  rintro e w3 ⟨rfl, hbd3, hb3, _⟩
  clear hw
  have J0 : Hid (netT x.net = tmT x 0) := Lib.hid rfl
  rw [empty_add, J0.out] at hbd3
  have BD3 := Lib.hid hbd3
  have H3 := Lib.hid (H2.out.callB hb3 (by omega))
  have hz3 := Nat.le_trans hz2 hb3.size
  clear hbd3 hb3
  obtain ⟨c0, c1, c2⟩ := H3.out.cells
  go_wp2_with fail
  clear c0 c1 c2
  go_loopw [5, 13] (fun _ j wr => ∃ k : Nat, k ≤ x.trips.length ∧ j = .int .i64 k ∧ BldS (w.heap.size + 1) (w.heap.size + 1) (tmT x k) wr ∧ Below (w.heap.size + 1) w3 wr) (fun _ j _ => x.trips.length - (intOf j).toNat)
  case atStart => exact ⟨0, Nat.zero_le _, rfl, BD3.out, Below.refl _ _⟩
  case round =>
    obtain ⟨k, hk, rfl, hbd, hb⟩ := hrel
    have H4 := Lib.hid (H3.out.callB hb (by omega))
    have HB4 := Lib.hid hb
    have BD4 := Lib.hid hbd
    have hz4 := Nat.le_trans hz3 hb.size
    clear hbd hb
    by_cases hlt : k < x.trips.length
    · have hss := tmT_le HG.out hk
      have HP := Lib.hid (tpX_of HG.out hlt)
      have HTi := Lib.hid (ti_of HG.out hlt)
      have hnm := HP.out.name
      have hin := iN_size HP.out
      have hcn : (cN x k).size = 5 := clk_size _
      have a0 := HP.out.a0
      have a1 := HP.out.a1
      have t0 := HP.out.c0
      have t1 := HP.out.c1
      have HS := Lib.hid (tmT_succ' x k)
      obtain ⟨b, o, rfl, hbl, d0, d1, d2⟩ := I3sIn.at H4.out.trips hlt
      have hik : (k : Int) < x.trips.length := by omega
      have hne : wr.heap.size ≠ w.heap.size + 1 := by have := BD4.out.lt; omega
      have W2B : Hid (Below wr.heap.size wr (wr.alloc (.cells #[.int .i64 (nth3 x.trips k).a, .int .i64 (nth3 x.trips k).b, .int .i64 (nth3 x.trips k).c] 87))) := Lib.hid (by go_grown)
      have W2L : Hid ((wr.alloc (.cells #[.int .i64 (nth3 x.trips k).a, .int .i64 (nth3 x.trips k).b, .int .i64 (nth3 x.trips k).c] 87)).heap[wr.heap.size]? = some (.cells #[.int .i64 (nth3 x.trips k).a, .int .i64 (nth3 x.trips k).b, .int .i64 (nth3 x.trips k).c] 87 (0, 0))) := Lib.hid (heap_alloc_new' _ _)
      have BD5 := Lib.hid (BD4.out.call W2B.out)
      have H5 := Lib.hid (H4.out.call W2B.out)
      have HB5 := Lib.hid (bel_of HB4.out (by omega) W2B.out)
      have hz5 : w.heap.size + 1 ≤ (wr.alloc (.cells #[.int .i64 (nth3 x.trips k).a, .int .i64 (nth3 x.trips k).b, .int .i64 (nth3 x.trips k).c] 87)).heap.size := by simp; omega
      go_wp2_with fail
      clear d0 d1 d2
      generalize wr.heap.size = gb at *
      generalize (wr.alloc (.cells #[.int .i64 (nth3 x.trips k).a, .int .i64 (nth3 x.trips k).b, .int .i64 (nth3 x.trips k).c] 87)) = wb at *
      have HTS0 : Hid (TS (w.heap.size + 1) gb (.cells #[.int .i64 (nth3 x.trips k).a, .int .i64 (nth3 x.trips k).b, .int .i64 (nth3 x.trips k).c] 87 (0, 0)) wb wb) := Lib.hid ⟨Below.refl _ _, W2L.out⟩
      have ts0 := HTS0.out
      have hC : ∀ w', TS (w.heap.size + 1) gb (.cells #[.int .i64 (nth3 x.trips k).a, .int .i64 (nth3 x.trips k).b, .int .i64 (nth3 x.trips k).c] 87 (0, 0)) wb w' → Tt3 w' w.heap.size x A ca L cl (some ⟨b, o, none⟩) ct := fun w' h => (H5.out.callB h.1 (by omega)).cells
      have hE : ∀ w', TS (w.heap.size + 1) gb (.cells #[.int .i64 (nth3 x.trips k).a, .int .i64 (nth3 x.trips k).b, .int .i64 (nth3 x.trips k).c] 87 (0, 0)) wb w' → w'.cell? ⟨gb, 0, none⟩ = some (.int .i64 (nth3 x.trips k).a) ∧ w'.cell? ⟨gb, 1, none⟩ = some (.int .i64 (nth3 x.trips k).b) ∧ w'.cell? ⟨gb, 2, none⟩ = some (.int .i64 (nth3 x.trips k).c) := fun w' h => ⟨by rw [Lib.cell_of_heap h.2]; rfl, by rw [Lib.cell_of_heap h.2]; rfl, by rw [Lib.cell_of_heap h.2]; rfl⟩
      unfold Tt3 at hC
      have HI : Hid (bs (num (nth3 x.trips k).a) = iN x k) := Lib.hid rfl
      have HCN : Hid (clk (nth3 x.trips k).c.toNat = cN x k) := Lib.hid rfl
      generalize hsk : tmT x k = s at *
      generalize hnk : (lnI x k).name = nm at *
      generalize hik0 : iN x k = ia at *
      generalize hck : cN x k = cc at *
      have HNK := Lib.hid hnk
      have p1 : ¬ 9223372036854775807 < 5 + ia.size := by omega
      have p2 : ¬ 9223372036854775807 < 5 + ia.size + 1 := by omega
      have p3 : ¬ 9223372036854775807 < 5 + ia.size + 1 + nm.size := by omega
      have p4 : ¬ 9223372036854775807 < 5 + ia.size + 1 + nm.size + 1 := by omega
      have p5 : ¬ 9223372036854775807 < 5 + ia.size + 1 + nm.size + 1 + cc.size := by omega
      have p6 : ¬ 9223372036854775807 < 5 + ia.size + 1 + nm.size + 1 + cc.size + 1 := by omega
      have HSZ : Hid (s.size + (⟨#[116, 114, 105, 112, 32]⟩ ++ ia ++ ⟨#[32]⟩ ++ nm ++ ⟨#[32]⟩ ++ cc ++ ⟨#[10]⟩).size ≤ 140737488355328) := Lib.hid (by simp only [ByteArray.size_append, z1, z2, z3]; omega)
      clear hsk hnk hik0 hck hcn
      go_region_held3 (fun w' => TS (w.heap.size + 1) gb (.cells #[.int .i64 (nth3 x.trips k).a, .int .i64 (nth3 x.trips k).b, .int .i64 (nth3 x.trips k).c] 87 (0, 0)) wb w') (repeat' first | assumption | (with_reducible refine TS.drew ?_) | (with_reducible refine TS.drewN ?_ _))
        (first
          | (go_at_call 79; refine (itoa_any _ _ (by omega) (by omega) (HT.out.call (H5.out.callB (‹TS (w.heap.size + 1) gb (.cells #[.int .i64 (nth3 x.trips k).a, .int .i64 (nth3 x.trips k).b, .int .i64 (nth3 x.trips k).c] 87 (0, 0)) wb _›).1 (by omega)).bel)).mono ?_; rintro e w5 ⟨rfl, hb5⟩; rw [HI.out]; have hB5 : Below wb.heap.size wb w5 := bel_call (by first | exact Below.refl _ _ | exact (Below.refl _ _).drew | exact (Below.refl _ _).drew.drew) hb5; have hT5 : TS (w.heap.size + 1) gb (.cells #[.int .i64 (nth3 x.trips k).a, .int .i64 (nth3 x.trips k).b, .int .i64 (nth3 x.trips k).c] 87 (0, 0)) wb w5 := TS.call ‹TS (w.heap.size + 1) gb (.cells #[.int .i64 (nth3 x.trips k).a, .int .i64 (nth3 x.trips k).b, .int .i64 (nth3 x.trips k).c] 87 (0, 0)) wb _› hb5 (by first | exact hz5 | omega); clear hb5)
          | (go_at_call 96; refine (lineOfT_any w.heap.size x _ _ _ _ _ _ k _ ((H5.out.callB (‹TS (w.heap.size + 1) gb (.cells #[.int .i64 (nth3 x.trips k).a, .int .i64 (nth3 x.trips k).b, .int .i64 (nth3 x.trips k).c] 87 (0, 0)) wb w5›).1 (by omega)).lines0) (by have := hB5.size; omega) HTi.out hm).mono ?_; rintro e w6 ⟨S, cs, R, cr, rfl, _, _, _, _, hb6⟩; have hB6 := bel_call hB5 hb6; have hT6 : TS (w.heap.size + 1) gb (.cells #[.int .i64 (nth3 x.trips k).a, .int .i64 (nth3 x.trips k).b, .int .i64 (nth3 x.trips k).c] 87 (0, 0)) wb w6 := TS.call hT5 hb6 (by have := hB5.size; omega); have hfd : ∀ w', (Instr.field 80 (.agg #[.string (lnI x k).name, .slice S (lnI x k).stops.length cs, .slice R (lnI x k).runs.length cr]) 0).run Tryd.prog w' = .ok (.string nm) w' := (fun _ => by rw [← HNK.out]; kernel_rfl); clear hb6)
          | (go_at_call 97; refine (clockText_any _ _ t0 t1).mono ?_; rintro e w7 ⟨rfl, hb7⟩; rw [HCN.out]; have hB7 := bel_call hB6 hb7; have hT7 : TS (w.heap.size + 1) gb (.cells #[.int .i64 (nth3 x.trips k).a, .int .i64 (nth3 x.trips k).b, .int .i64 (nth3 x.trips k).c] 87 (0, 0)) wb w7 := TS.call hT6 hb7 (by have := hB6.size; omega); clear hb7)
          | (go_at_call 78; have q1 : BldS (w.heap.size + 1) (w.heap.size + 1) s w7 := BD5.out.call hB7; have q2 : w.heap.size + 1 ≤ w7.heap.size := (by have := hB7.size; omega); have hw := writeString_any (w.heap.size + 1) (w.heap.size + 1) s _ w7 q1 HSZ.out q2; ((with_reducible refine hw.mono ?_); rintro e w9 ⟨rfl, hbd9, hb9, hk9⟩; clear hw; have hT9 : TS (w.heap.size + 1) gb (.cells #[.int .i64 (nth3 x.trips k).a, .int .i64 (nth3 x.trips k).b, .int .i64 (nth3 x.trips k).c] 87 (0, 0)) wb w9 := ⟨hT7.1.trans hb9, hk9 gb _ hT7.2 (fun e => hne (Option.some.inj e)) (fun c fz e => by injection e with e1 e2 e3; exact absurd e2 (by decide))⟩)))
      all_goals
        rw [HS.out] at hbd9
        have BD9 := Lib.hid hbd9
        have HB9 := Lib.hid (HB5.out.trans hT9.1)
        clear hC hE hfd hbd9 hb9 hk9 hT9 q1 q2 hT7 hB7 hT6 hB6 hT5 hB5
        go_wp2_with fail
        go_roundw
        case rel => exact ⟨k + 1, by omega, by go_num, BD9.out, HB9.out⟩
        case measure => simp [intOf]; omega
    · obtain rfl : k = x.trips.length := by omega
      have JN : Hid (tmT x x.trips.length = timT x) := Lib.hid rfl
      have hn0 := (tmT_size HG.out x.trips.length (Nat.le_refl _)).1
      rw [JN.out] at BD4 hn0
      have hw := string_any (w.heap.size + 1) (w.heap.size + 1) (timT x) wr BD4.out (by omega)
      go_wp2_with fail
      refine hw.mono ?_
      rintro e w4 ⟨rfl, hb4⟩
      clear hw
      have HBE := Lib.hid (H4.out.bel.trans (hb4.mono (by omega)))
      clear hb4
      go_wp2_with fail
      go_ret
      exact ⟨rfl, HBE.out⟩
end Go.Proofs.YtdiffepokiabkaaDoor
