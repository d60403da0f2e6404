/- RemoveTrip: both contracts. -/
import Derived.Test.YtambgommeannnaaTed
import Derived.Test.YtambgommeannnaaItu
namespace Go.Proofs.Ytambgommeannnaa
open Go.ChangeShapes Go.WideShapes Go.ChangeAt Go.RowKit Go.PlainAid
set_option linter.unusedVariables false
set_option linter.unusedSimpArgs false

set_option maxRecDepth 100000 in
set_option maxHeartbeats 4000000 in
theorem withoutTrip_any (x : TTD) (i : Nat) (b o ca bl ol cl bt ot ct : Nat) (w : World) (hA : StrsIn w (Zone.below w.heap.size) (some ⟨b, o, none⟩) x.net.stops) (hL : LinesIn w (Zone.below w.heap.size) (some ⟨bl, ol, none⟩) x.net.lines) (hT : I3sIn w (Zone.below w.heap.size) (some ⟨bt, ot, none⟩) x.trips) (hx : FitsT x) (hn : NetX x.net) (hi : i < x.trips.length) :
    Calls Try.prog 137 #[.agg #[.slice (some ⟨b, o, none⟩) x.net.stops.length ca, .slice (some ⟨bl, ol, none⟩) x.net.lines.length cl, .slice (some ⟨bt, ot, none⟩) x.trips.length ct], .int .i64 (i : Int)] w (RetTtN (withTr x (rmL x.trips i)) w) := by
  have HX := Lib.hid hn
  clear hn
  obtain ⟨W0, hW0⟩ : ∃ W0, W0 = ((w.alloc (.cells #[.slice (some ⟨b, o, none⟩) x.net.stops.length ca, .slice (some ⟨bl, ol, none⟩) x.net.lines.length cl, .slice (some ⟨bt, ot, none⟩) x.trips.length ct] 49)).alloc (.cells #[.slice none 0 0, .slice none 0 0, .slice none 0 0] 49)) := ⟨_, rfl⟩
  have H0 : Hid (TW w W0 x (some ⟨b, o, none⟩) ca (some ⟨bl, ol, none⟩) cl (some ⟨bt, ot, none⟩) ct) := Lib.hid (by rw [hW0]; exact TW.start hA hL hT)
  have htl : x.trips.length ≤ 1048576 := hx.trips
  clear hA hL hT
  go_enter Try.func137, Try.ntmps137
  go_upto_region 1 with fail
  rw [← hW0]
  clear hW0
  obtain ⟨c0_0, c0_1, c0_2⟩ := H0.out.box.cells
  have HG1 := Lib.hid (copyTT_any x b o ca bl ol cl bt ot ct W0 H0.out.box.stops H0.out.box.lines H0.out.box.trips hx HX.out)
  go_wp2_with fail
  refine HG1.out.mono ?_
  intro e w1 hr
  obtain ⟨gs, ks, g, kl, p, r, gt, kt, rfl, hn, hot, hb1⟩ := hr.n
  have H1 := Lib.hid (H0.out.call hb1)
  have hz1 := hb1.size
  have HN1 := Lib.hid hn
  have HO1 := Lib.hid hot
  clear hb1 hr hn hot c0_0 c0_1 c0_2
  go_upto_region 2 with fail
  obtain ⟨W4, hW4⟩ : ∃ W4, W4 = (w1.alloc (.cells #[.slice (some ⟨gs, 0, none⟩) x.net.stops.length ks, .slice (some ⟨g, 0, none⟩) x.net.lines.length kl, .slice (some ⟨gt, 0, none⟩) x.trips.length kt] 49)) := ⟨_, rfl⟩
  rw [← hW4]
  have H4 : Hid (TW w W4 x (some ⟨b, o, none⟩) ca (some ⟨bl, ol, none⟩) cl (some ⟨bt, ot, none⟩) ct) := Lib.hid (by rw [hW4]; exact H1.out.alloc _)
  have HN4 : Hid (TtN W4 W0.heap.size x gs g gt p r) := Lib.hid (by rw [hW4]; exact HN1.out.alloc _)
  have HO4 : Hid (OwnT W4 W0.heap.size (.slice (some ⟨gt, 0, none⟩) x.trips.length kt) x.trips) := Lib.hid (by rw [hW4]; exact OwnE.alloc HO1.out _)
  have HOF := Lib.hid HN1.out.offEnd
  have hz4 : w1.heap.size < W4.heap.size := by rw [hW4]; simp
  have b0 : W4.cell? ⟨w1.heap.size, 0, none⟩ = some (.slice (some ⟨gs, 0, none⟩) x.net.stops.length ks) := by rw [hW4]; go_simp
  have b1 : W4.cell? ⟨w1.heap.size, 1, none⟩ = some (.slice (some ⟨g, 0, none⟩) x.net.lines.length kl) := by rw [hW4]; go_simp
  have b2 : W4.cell? ⟨w1.heap.size, 2, none⟩ = some (.slice (some ⟨gt, 0, none⟩) x.trips.length kt) := by rw [hW4]; go_simp
  have HBF : Hid (∀ j, W4.frozen? ⟨w1.heap.size, j, none⟩ = false) := Lib.hid (fun j => by rw [hW4]; go_simp)
  have HB4 := Lib.hid (And.intro b0 (And.intro b1 b2))
  have hgt0 := HN1.out.gt1
  have hgtw := HN1.out.gt0
  have hlt1 := H1.out.lt
  have hlt0 := H0.out.lt
  clear hW4
  have hwr : IntKind.i64.wrap ((i : Int) + 1) = (i : Int) + 1 := IntWalk.i64_in _ (by omega)
  have HG5 := Lib.hid (deleteT_any gt kt i W0.heap.size x.trips W4 HO4.out hi htl)
  clear b0 b1
  go_wp2_with fail
  refine HG5.out.mono ?_
  rintro e w5 ⟨rfl, hi5, hz5, hk5, hb5⟩
  have HN5 : Hid (TtN w5 W0.heap.size (withTr x (rmL x.trips i)) gs g gt p r) := Lib.hid (HN4.out.trips (fun c hc _ => Same.of_blk (hk5 c hc)) (by omega) hi5)
  have H5 : Hid (TW w w5 x (some ⟨b, o, none⟩) ca (some ⟨bl, ol, none⟩) cl (some ⟨bt, ot, none⟩) ct) := Lib.hid (H4.out.kept hb5 (by omega))
  have s5 : Same W4 w5 w1.heap.size := Same.of_blk (hk5 _ (by omega))
  have a0 := (s5 0).1.trans HB4.out.1
  have a1 := (s5 1).1.trans HB4.out.2.1
  have a2 := (s5 2).1.trans HB4.out.2.2
  have af := (s5 2).2.trans (HBF.out 2)
  clear hi5 hk5 hb5 s5 b2
  go_upto_region 3 with fail
  obtain ⟨W6, hW6⟩ : ∃ W6, W6 = w5.setCell ⟨w1.heap.size, 2, none⟩ (.slice (some ⟨gt, 0, none⟩) (rmL x.trips i).length kt) := ⟨_, rfl⟩
  rw [← hW6]
  have HN6 : Hid (TtN W6 W0.heap.size (withTr x (rmL x.trips i)) gs g gt p r) := Lib.hid (by rw [hW6]; exact HN5.out.setOff (q := ⟨w1.heap.size, 2, none⟩) HOF.out.1 HOF.out.2.1 HOF.out.2.2 _)
  have H6 : Hid (TW w W6 x (some ⟨b, o, none⟩) ca (some ⟨bl, ol, none⟩) cl (some ⟨bt, ot, none⟩) ct) := Lib.hid (by rw [hW6]; exact H5.out.kept ((Below.refl w1.heap.size w5).setCell (p := ⟨w1.heap.size, 2, none⟩) (Nat.le_refl _) _) hlt1)
  have k0 : W6.cell? ⟨w1.heap.size, 0, none⟩ = some (.slice (some ⟨gs, 0, none⟩) x.net.stops.length ks) := by rw [hW6, World.cell?_setCell_other _ _ _ _ (addr_ne (by omega))]; exact a0
  have k1 : W6.cell? ⟨w1.heap.size, 1, none⟩ = some (.slice (some ⟨g, 0, none⟩) x.net.lines.length kl) := by rw [hW6, World.cell?_setCell_other _ _ _ _ (addr_ne (by omega))]; exact a1
  have k2 : W6.cell? ⟨w1.heap.size, 2, none⟩ = some (.slice (some ⟨gt, 0, none⟩) (rmL x.trips i).length kt) := by rw [hW6]; exact World.cell?_setCell_same _ _ _ a2
  clear hW6 a0 a1 a2 af
  obtain ⟨t0, t1, t2⟩ := H6.out.res
  have f0 := H6.out.free 0
  have f1 := H6.out.free 1
  have f2 := H6.out.free 2
  go_wp2_with fail
  refine bodyPost_ret (v := .agg #[.slice (some ⟨gs, 0, none⟩) x.net.stops.length ks, .slice (some ⟨g, 0, none⟩) x.net.lines.length kl, .slice (some ⟨gt, 0, none⟩) (rmL x.trips i).length kt]) (by simp [results, Try.results137, go_sem, t0, t1, t2]) rfl ?_
  refine ⟨gs, ks, g, kl, p, r, gt, kt, rfl, ?_, ?_⟩
  · refine TtN.lower (lo := W0.heap.size) ?_ (by omega)
    repeat' (refine TtN.set ?_ (by show w.heap.size + 1 < W0.heap.size; omega) _)
    exact HN6.out
  · repeat' (refine Below.setCell ?_ (by simp) _)
    exact H6.out.bel
set_option maxRecDepth 100000 in
set_option maxHeartbeats 4000000 in
theorem l5Without_any (x : TTD) (i : Nat) (b o ca bl ol cl bt ot ct : Nat) (w : World) (hA : StrsIn w (Zone.below w.heap.size) (some ⟨b, o, none⟩) x.net.stops) (hL : LinesIn w (Zone.below w.heap.size) (some ⟨bl, ol, none⟩) x.net.lines) (hT : I3sIn w (Zone.below w.heap.size) (some ⟨bt, ot, none⟩) x.trips) (hx : FitsT x) (hn : NetX x.net) (hi : i < x.trips.length) (hct : x.trips.length ≤ ct) :
    Calls Try.prog 136 #[.agg #[.slice (some ⟨b, o, none⟩) x.net.stops.length ca, .slice (some ⟨bl, ol, none⟩) x.net.lines.length cl, .slice (some ⟨bt, ot, none⟩) x.trips.length ct], .int .i64 (i : Int)] w (RetTtC (withTr x (rmL x.trips i)) w) := by
  have HX := Lib.hid hn
  clear hn
  obtain ⟨W0, hW0⟩ : ∃ W0, W0 = ((w.alloc (.cells #[.slice (some ⟨b, o, none⟩) x.net.stops.length ca, .slice (some ⟨bl, ol, none⟩) x.net.lines.length cl, .slice (some ⟨bt, ot, none⟩) x.trips.length ct] 49)).alloc (.cells #[.slice none 0 0, .slice none 0 0, .slice none 0 0] 49)) := ⟨_, rfl⟩
  have H0 : Hid (TW w W0 x (some ⟨b, o, none⟩) ca (some ⟨bl, ol, none⟩) cl (some ⟨bt, ot, none⟩) ct) := Lib.hid (by rw [hW0]; exact TW.start hA hL hT)
  have htl : x.trips.length ≤ 1048576 := hx.trips
  clear hA hL hT
  go_enter Try.func136, Try.ntmps136
  go_upto_region 1 with fail
  rw [← hW0]
  clear hW0
  obtain ⟨c0_0, c0_1, c0_2⟩ := H0.out.box.cells
  have HG1 := Lib.hid (l5Own_any x b o ca bl ol cl bt ot ct W0 H0.out.box.stops H0.out.box.lines H0.out.box.trips hx HX.out)
  go_wp2_with fail
  refine HG1.out.mono ?_
  intro e w1 hr
  obtain ⟨gs, ks, g, kl, p, r, gt, kt, rfl, hn, hot, hb1⟩ := hr.n
  have H1 := Lib.hid (H0.out.call hb1)
  have hz1 := hb1.size
  have HN1 := Lib.hid hn
  have HO1 := Lib.hid hot
  clear hb1 hr hn hot c0_0 c0_1 c0_2
  go_upto_region 2 with fail
  obtain ⟨W4, hW4⟩ : ∃ W4, W4 = (w1.alloc (.cells #[.slice (some ⟨gs, 0, none⟩) x.net.stops.length ks, .slice (some ⟨g, 0, none⟩) x.net.lines.length kl, .slice (some ⟨gt, 0, none⟩) x.trips.length kt] 49)) := ⟨_, rfl⟩
  rw [← hW4]
  have H4 : Hid (TW w W4 x (some ⟨b, o, none⟩) ca (some ⟨bl, ol, none⟩) cl (some ⟨bt, ot, none⟩) ct) := Lib.hid (by rw [hW4]; exact H1.out.alloc _)
  have HN4 : Hid (TtN W4 W0.heap.size x gs g gt p r) := Lib.hid (by rw [hW4]; exact HN1.out.alloc _)
  have HO4 : Hid (OwnT W4 W0.heap.size (.slice (some ⟨gt, 0, none⟩) x.trips.length kt) x.trips) := Lib.hid (by rw [hW4]; exact OwnE.alloc HO1.out _)
  have HOF := Lib.hid HN1.out.offEnd
  have hz4 : w1.heap.size < W4.heap.size := by rw [hW4]; simp
  have b0 : W4.cell? ⟨w1.heap.size, 0, none⟩ = some (.slice (some ⟨gs, 0, none⟩) x.net.stops.length ks) := by rw [hW4]; go_simp
  have b1 : W4.cell? ⟨w1.heap.size, 1, none⟩ = some (.slice (some ⟨g, 0, none⟩) x.net.lines.length kl) := by rw [hW4]; go_simp
  have b2 : W4.cell? ⟨w1.heap.size, 2, none⟩ = some (.slice (some ⟨gt, 0, none⟩) x.trips.length kt) := by rw [hW4]; go_simp
  have HBF : Hid (∀ j, W4.frozen? ⟨w1.heap.size, j, none⟩ = false) := Lib.hid (fun j => by rw [hW4]; go_simp)
  have HB4 := Lib.hid (And.intro b0 (And.intro b1 b2))
  have hgt0 := HN1.out.gt1
  have hgtw := HN1.out.gt0
  have hlt1 := H1.out.lt
  have hlt0 := H0.out.lt
  clear hW4
  obtain ⟨j, hj⟩ : ∃ j, j = i + 1 := ⟨_, rfl⟩
  have hwr : IntKind.i64.wrap ((i : Int) + 1) = (j : Int) := by rw [IntWalk.i64_in _ (by omega)]; omega
  have HJ := Lib.hid hj
  have hic : (i : Int) ≤ (ct : Int) := by omega
  have hjc : (j : Int) ≤ (x.trips.length : Int) := by omega
  have hlc : (x.trips.length : Int) ≤ (ct : Int) := by omega
  have hi0 : (0 : Int) ≤ (i : Int) := by omega
  have hj0 : (0 : Int) ≤ (j : Int) := by omega
  obtain ⟨o2, ho2⟩ : ∃ o2 : Nat, (if ct = j then some (⟨bt, ot, none⟩ : Addr) else some ⟨bt, ot + j * 3, none⟩) = some ⟨bt, o2, none⟩ ∧ (j < x.trips.length → o2 = ot + j * 3) := by
    by_cases e : ct = j
    · exact ⟨ot, if_pos e, fun h => by omega⟩
    · exact ⟨ot + j * 3, if_neg e, fun _ => rfl⟩
  have HO2 := Lib.hid ho2
  have HRM : Hid ([] ++ x.trips.take i ++ x.trips.drop j = rmL x.trips i) := Lib.hid (by rw [hj]; rfl)
  have hE0 : OwnT (W4.alloc (.cells #[] 94)).drew W4.heap.size (.slice (some ⟨W4.heap.size, 0, none⟩) 0 0) [] := own0a (w := W4) (Nat.le_refl _)
  have hSL : SLn W4 w1.heap.size 3 W4 := ⟨Below.refl _ _, hz4, fun q => ⟨fun hq => by
    have : q = 0 ∨ q = 1 ∨ q = 2 := by omega
    rcases this with rfl | rfl | rfl
    · rw [b0]; rfl
    · rw [b1]; rfl
    · rw [b2]; rfl, HBF.out q⟩⟩
  obtain ⟨c4_0, c4_1, c4_2⟩ := H4.out.box.cells
  have HC4 := Lib.hid c4_2
  have hC : ∀ w', SLn W4 w1.heap.size 3 w' → w'.cell? ⟨w.heap.size, 2, none⟩ = some (.slice (some ⟨bt, ot, none⟩) x.trips.length ct) := fun w' h => (h.bel.cell (p := ⟨w.heap.size, 2, none⟩) (by show w.heap.size < w1.heap.size; omega)).trans HC4.out
  have hTt : ∀ w', SLn W4 w1.heap.size 3 w' → w'.cell? ⟨w1.heap.size, 2, none⟩ = some (getC w' w1.heap.size 2) ∧ w'.frozen? ⟨w1.heap.size, 2, none⟩ = false := fun w' h => h.has.get (by omega)
  have HTR := Lib.hid H4.out.box.trips0
  have HC : Hid (∀ w', SLn W4 w1.heap.size 3 w' → ∀ q u, (x.trips.flatMap encI3)[q]? = some u → w'.cell? ⟨bt, ot + q, none⟩ = some u) := Lib.hid (fun w' h => i3_cells (SLn.trs h HTR.out (by omega)))
  obtain ⟨i0, hii, iz0, iz1, iz2⟩ := info_parts Try.infoTrip
  clear ho2 hj c4_0 c4_1 c4_2 b0 b1 b2
  go_region_held3 (fun w' => SLn W4 w1.heap.size 3 w') (repeat' first | assumption | exact Nat.le_refl _ | (refine SLn.drew ?_) | (refine SLn.alloc ?_ _) | (refine SLn.set ?_ ?_ _))
    (first
      | (refine step_appsG (enc := encI3) (by rfl) _ _ 47 (by rfl) 24 Try.underlying47 hii iz0 iz1 iz2 rfl (by omega) (fun _ => rfl) encI3_cell (by omega) W4.heap.size _ [] (x.trips.take i) _ (by with_reducible exact hE0) (by rfl) bt ot _ _ (by rfl) (by simp <;> omega) (i3_take (HC.out _ (by assumption)) i) (by simp <;> omega) (by simp) ?_; intro v1 w1a ho1 hb1 hg1 hat1; have hS1 := SLn.call2 ‹SLn W4 w1.heap.size 3 _› hb1 hz4 (by simp); have hB1 : Below W4.heap.size W4 w1a := (((Below.refl W4.heap.size W4).alloc (Nat.le_refl _) _).drew).trans hb1)
      | (refine step_appsG (enc := encI3) (by rfl) _ _ 47 (by rfl) 24 Try.underlying47 hii iz0 iz1 iz2 rfl (by omega) (fun _ => rfl) encI3_cell (by omega) W4.heap.size _ ([] ++ x.trips.take i) (x.trips.drop j) _ (by with_reducible exact ho1) (by rfl) bt o2 _ _ (by show Value.slice (ite _ _ _) _ _ = _; rw [HO2.out.1]) (by simp <;> omega) (i3_drop (HC.out _ (by assumption)) j HO2.out.2) (by simp <;> omega) hB1.size ?_; intro v2 w2a ho2 hb2 hg2 hat2; obtain ⟨gt2, hgt2⟩ : ∃ gt2, v2.ownBlock = some gt2 := (by rcases hat1 with q1 | q1 <;> rcases hat2 with q2 | q2 <;> first | exact ⟨_, q2⟩ | exact ⟨_, q2.trans q1⟩); rw [HRM.out] at ho2; obtain ⟨kt2, rfl⟩ := OwnE.someB ho2 hgt2; have hS2 := SLn.call2 hS1 hb2 hz4 hB1.size; have hB2 : Below W4.heap.size W4 w2a := hB1.trans hb2)
      | fail)
  all_goals
    rw [HO2.out.1]
    have hr2 := OwnT.row ho2
    have HB2 := Lib.hid hB2
    have HN5 : Hid (TtN w2a W0.heap.size (withTr x (rmL x.trips i)) gs g gt2 p r) := Lib.hid (HN4.out.tripsAt (fun c hc hl => Same.of_below hB2 hl) hB2.size (.inr hr2.ge) hr2.lt (i3_of_row hr2.cell hr2.free))
    have H5 : Hid (TW w w2a x (some ⟨b, o, none⟩) ca (some ⟨bl, ol, none⟩) cl (some ⟨bt, ot, none⟩) ct) := Lib.hid (H4.out.call hB2)
    have HNC := Lib.hid hr2.nc
    have hge2 := hr2.ge
    have s5 : Same W4 w2a w1.heap.size := Same.of_below hB2 hz4
    obtain ⟨a2, af⟩ := hTt _ hS2
    obtain ⟨W6, hW6⟩ : ∃ W6, W6 = w2a.setCell ⟨w1.heap.size, 2, none⟩ (.slice (some ⟨gt2, 0, none⟩) (rmL x.trips i).length kt2) := ⟨_, rfl⟩
    rw [← hW6]
    have HN6 : Hid (TtN W6 W0.heap.size (withTr x (rmL x.trips i)) gs g gt2 p r) := Lib.hid (by rw [hW6]; exact HN5.out.setOff (q := ⟨w1.heap.size, 2, none⟩) HOF.out.1 HOF.out.2.1 (by show w1.heap.size ≠ gt2; omega) _)
    have H6 : Hid (TW w W6 x (some ⟨b, o, none⟩) ca (some ⟨bl, ol, none⟩) cl (some ⟨bt, ot, none⟩) ct) := Lib.hid (by rw [hW6]; exact H5.out.kept ((Below.refl w1.heap.size w2a).setCell (p := ⟨w1.heap.size, 2, none⟩) (Nat.le_refl _) _) hlt1)
    have k0 : W6.cell? ⟨w1.heap.size, 0, none⟩ = some (.slice (some ⟨gs, 0, none⟩) x.net.stops.length ks) := by rw [hW6, World.cell?_setCell_other _ _ _ _ (addr_ne (by omega))]; exact (s5 0).1.trans HB4.out.1
    have k1 : W6.cell? ⟨w1.heap.size, 1, none⟩ = some (.slice (some ⟨g, 0, none⟩) x.net.lines.length kl) := by rw [hW6, World.cell?_setCell_other _ _ _ _ (addr_ne (by omega))]; exact (s5 1).1.trans HB4.out.2.1
    have k2 : W6.cell? ⟨w1.heap.size, 2, none⟩ = some (.slice (some ⟨gt2, 0, none⟩) (rmL x.trips i).length kt2) := by rw [hW6]; exact World.cell?_setCell_same _ _ _ a2
    clear hW6 hr2 s5 a2 af hC hTt hSL hE0 ho1 ho2 hb1 hb2 hg1 hg2 hat1 hat2 hgt2 hS1 hS2 hB1 hB2
    obtain ⟨t0, t1, t2⟩ := H6.out.res
    have f0 := H6.out.free 0
    have f1 := H6.out.free 1
    have f2 := H6.out.free 2
    go_wp2_with fail
    refine bodyPost_ret (v := .agg #[.slice (some ⟨gs, 0, none⟩) x.net.stops.length ks, .slice (some ⟨g, 0, none⟩) x.net.lines.length kl, .slice (some ⟨gt2, 0, none⟩) (rmL x.trips i).length kt2]) (by simp [results, Try.results136, go_sem, t0, t1, t2]) rfl ?_
    refine ⟨gs, ks, g, kl, p, r, gt2, kt2, rfl, HNC.out, ?_, ?_⟩
    · refine TtN.lower (lo := W0.heap.size) ?_ (by omega)
      repeat' (refine TtN.set ?_ (by show w.heap.size + 1 < W0.heap.size; omega) _)
      exact HN6.out
    · repeat' (refine Below.setCell ?_ (by simp) _)
      exact H6.out.bel
set_option maxRecDepth 100000 in
set_option maxHeartbeats 4000000 in
theorem implRemove_no1 (x : TTD) (id : Int) (b o ca bl ol cl bt ot ct : Nat) (w : World) (hA : StrsIn w (Zone.below w.heap.size) (some ⟨b, o, none⟩) x.net.stops) (hL : LinesIn w (Zone.below w.heap.size) (some ⟨bl, ol, none⟩) x.net.lines) (hT : I3sIn w (Zone.below w.heap.size) (some ⟨bt, ot, none⟩) x.trips) (hx : FitsT x) (hb : ttB x = false) :
    Calls Try.prog 59 #[.agg #[.slice (some ⟨b, o, none⟩) x.net.stops.length ca, .slice (some ⟨bl, ol, none⟩) x.net.lines.length cl, .slice (some ⟨bt, ot, none⟩) x.trips.length ct], .int .i64 id] w (RetTt (rmR x id).1 (rmR x id).2 w) := by
  have HR := Lib.hid (rmR_no (x := x) (id := id) (.inl hb))
  obtain ⟨W0, hW0⟩ : ∃ W0, W0 = ((w.alloc (.cells #[.slice (some ⟨b, o, none⟩) x.net.stops.length ca, .slice (some ⟨bl, ol, none⟩) x.net.lines.length cl, .slice (some ⟨bt, ot, none⟩) x.trips.length ct] 49)).alloc (.cells #[.slice none 0 0, .slice none 0 0, .slice none 0 0] 49)) := ⟨_, rfl⟩
  have H0 : Hid (TW w W0 x (some ⟨b, o, none⟩) ca (some ⟨bl, ol, none⟩) cl (some ⟨bt, ot, none⟩) ct) := Lib.hid (by rw [hW0]; exact TW.start hA hL hT)
  have htl : x.trips.length ≤ 1048576 := hx.trips
  clear hA hL hT
  go_enter Try.func59, Try.ntmps59
  go_upto_region 1 with fail
  rw [← hW0]
  clear hW0
  obtain ⟨c0_0, c0_1, c0_2⟩ := H0.out.box.cells
  have HG1 := Lib.hid (isValidTimetable_any x (some ⟨b, o, none⟩) (some ⟨bl, ol, none⟩) (some ⟨bt, ot, none⟩) ca cl ct W0 H0.out.box.stops H0.out.box.lines H0.out.box.trips hx)
  go_wp2_with fail
  refine HG1.out.mono ?_
  rintro e w1 ⟨rfl, hb1⟩
  rw [hb]
  clear hb
  have H1 := Lib.hid (H0.out.call hb1)
  have hz1 := hb1.size
  clear hb1 c0_0 c0_1 c0_2
  obtain ⟨c1_0, c1_1, c1_2⟩ := H1.out.box.cells
  obtain ⟨t0, t1, t2⟩ := H1.out.res
  have f0 := H1.out.free 0
  have f1 := H1.out.free 1
  have f2 := H1.out.free 2
  go_wp2_with fail
  refine bodyPost_ret (v := .tuple #[.agg #[.slice none 0 0, .slice none 0 0, .slice none 0 0], .bool false]) (by simp [results, Try.results59, go_sem, t0, t1, t2]) rfl ?_
  refine retTt_eq HR.out (retTt_zero ?_)
  repeat' (refine Below.setCell ?_ (by simp) _)
  exact H1.out.bel
set_option maxRecDepth 100000 in
set_option maxHeartbeats 4000000 in
theorem implRemove_no2 (x : TTD) (id : Int) (b o ca bl ol cl bt ot ct : Nat) (w : World) (hA : StrsIn w (Zone.below w.heap.size) (some ⟨b, o, none⟩) x.net.stops) (hL : LinesIn w (Zone.below w.heap.size) (some ⟨bl, ol, none⟩) x.net.lines) (hT : I3sIn w (Zone.below w.heap.size) (some ⟨bt, ot, none⟩) x.trips) (hx : FitsT x) (hb : ttB x = true) (hj : idI x.trips id < 0) :
    Calls Try.prog 59 #[.agg #[.slice (some ⟨b, o, none⟩) x.net.stops.length ca, .slice (some ⟨bl, ol, none⟩) x.net.lines.length cl, .slice (some ⟨bt, ot, none⟩) x.trips.length ct], .int .i64 id] w (RetTt (rmR x id).1 (rmR x id).2 w) := by
  have HR := Lib.hid (rmR_no (x := x) (id := id) (.inr hj))
  obtain ⟨W0, hW0⟩ : ∃ W0, W0 = ((w.alloc (.cells #[.slice (some ⟨b, o, none⟩) x.net.stops.length ca, .slice (some ⟨bl, ol, none⟩) x.net.lines.length cl, .slice (some ⟨bt, ot, none⟩) x.trips.length ct] 49)).alloc (.cells #[.slice none 0 0, .slice none 0 0, .slice none 0 0] 49)) := ⟨_, rfl⟩
  have H0 : Hid (TW w W0 x (some ⟨b, o, none⟩) ca (some ⟨bl, ol, none⟩) cl (some ⟨bt, ot, none⟩) ct) := Lib.hid (by rw [hW0]; exact TW.start hA hL hT)
  have htl : x.trips.length ≤ 1048576 := hx.trips
  clear hA hL hT
  go_enter Try.func59, Try.ntmps59
  go_upto_region 1 with fail
  rw [← hW0]
  clear hW0
  obtain ⟨c0_0, c0_1, c0_2⟩ := H0.out.box.cells
  have HG1 := Lib.hid (isValidTimetable_any x (some ⟨b, o, none⟩) (some ⟨bl, ol, none⟩) (some ⟨bt, ot, none⟩) ca cl ct W0 H0.out.box.stops H0.out.box.lines H0.out.box.trips hx)
  go_wp2_with fail
  refine HG1.out.mono ?_
  rintro e w1 ⟨rfl, hb1⟩
  rw [hb]
  clear hb
  have H1 := Lib.hid (H0.out.call hb1)
  have hz1 := hb1.size
  clear hb1 c0_0 c0_1 c0_2
  obtain ⟨c1_0, c1_1, c1_2⟩ := H1.out.box.cells
  have HG2 := Lib.hid (tripIndex_any x (some ⟨b, o, none⟩) (some ⟨bl, ol, none⟩) (some ⟨bt, ot, none⟩) ca cl ct id w1 H1.out.box.trips htl)
  go_wp2_with fail
  refine HG2.out.mono ?_
  rintro e w2 ⟨rfl, hb2⟩
  skip
  have H2 := Lib.hid (H1.out.call hb2)
  have hz2 := hb2.size
  clear hb2 c1_0 c1_1 c1_2
  obtain ⟨c2_0, c2_1, c2_2⟩ := H2.out.box.cells
  have hd : decide (idI x.trips id < 0) = true := decide_eq_true hj
  obtain ⟨t0, t1, t2⟩ := H2.out.res
  have f0 := H2.out.free 0
  have f1 := H2.out.free 1
  have f2 := H2.out.free 2
  go_wp2_with fail
  refine bodyPost_ret (v := .tuple #[.agg #[.slice none 0 0, .slice none 0 0, .slice none 0 0], .bool false]) (by simp [results, Try.results59, go_sem, t0, t1, t2]) rfl ?_
  refine retTt_eq HR.out (retTt_zero ?_)
  repeat' (refine Below.setCell ?_ (by simp) _)
  exact H2.out.bel
set_option maxRecDepth 100000 in
set_option maxHeartbeats 4000000 in
theorem implRemove_go (x : TTD) (id : Int) (b o ca bl ol cl bt ot ct : Nat) (w : World) (hA : StrsIn w (Zone.below w.heap.size) (some ⟨b, o, none⟩) x.net.stops) (hL : LinesIn w (Zone.below w.heap.size) (some ⟨bl, ol, none⟩) x.net.lines) (hT : I3sIn w (Zone.below w.heap.size) (some ⟨bt, ot, none⟩) x.trips) (hx : FitsT x) (hb : ttB x = true) (hj : 0 ≤ idI x.trips id) :
    Calls Try.prog 59 #[.agg #[.slice (some ⟨b, o, none⟩) x.net.stops.length ca, .slice (some ⟨bl, ol, none⟩) x.net.lines.length cl, .slice (some ⟨bt, ot, none⟩) x.trips.length ct], .int .i64 id] w (RetTt (rmR x id).1 (rmR x id).2 w) := by
  obtain ⟨k, hk, hkk⟩ := idI_at hj
  have HX := Lib.hid (netX_of (ttB_net hb))
  have HR : Hid (rmR x id = (withTr x (rmL x.trips k), true)) := Lib.hid (by rw [rmR_yes hb hj]; unfold rmX; rw [hkk, Int.toNat_natCast])
  have HKK := Lib.hid hkk
  have hd : decide ((k : Int) < 0) = false := decide_eq_false (by omega)
  clear hj hkk
  obtain ⟨W0, hW0⟩ : ∃ W0, W0 = ((w.alloc (.cells #[.slice (some ⟨b, o, none⟩) x.net.stops.length ca, .slice (some ⟨bl, ol, none⟩) x.net.lines.length cl, .slice (some ⟨bt, ot, none⟩) x.trips.length ct] 49)).alloc (.cells #[.slice none 0 0, .slice none 0 0, .slice none 0 0] 49)) := ⟨_, rfl⟩
  have H0 : Hid (TW w W0 x (some ⟨b, o, none⟩) ca (some ⟨bl, ol, none⟩) cl (some ⟨bt, ot, none⟩) ct) := Lib.hid (by rw [hW0]; exact TW.start hA hL hT)
  have htl : x.trips.length ≤ 1048576 := hx.trips
  clear hA hL hT
  go_enter Try.func59, Try.ntmps59
  go_upto_region 1 with fail
  rw [← hW0]
  clear hW0
  obtain ⟨c0_0, c0_1, c0_2⟩ := H0.out.box.cells
  have HG1 := Lib.hid (isValidTimetable_any x (some ⟨b, o, none⟩) (some ⟨bl, ol, none⟩) (some ⟨bt, ot, none⟩) ca cl ct W0 H0.out.box.stops H0.out.box.lines H0.out.box.trips hx)
  go_wp2_with fail
  refine HG1.out.mono ?_
  rintro e w1 ⟨rfl, hb1⟩
  rw [hb]
  clear hb
  have H1 := Lib.hid (H0.out.call hb1)
  have hz1 := hb1.size
  clear hb1 c0_0 c0_1 c0_2
  obtain ⟨c1_0, c1_1, c1_2⟩ := H1.out.box.cells
  have HG2 := Lib.hid (tripIndex_any x (some ⟨b, o, none⟩) (some ⟨bl, ol, none⟩) (some ⟨bt, ot, none⟩) ca cl ct id w1 H1.out.box.trips htl)
  go_wp2_with fail
  refine HG2.out.mono ?_
  rintro e w2 ⟨rfl, hb2⟩
  rw [HKK.out]
  have H2 := Lib.hid (H1.out.call hb2)
  have hz2 := hb2.size
  clear hb2 c1_0 c1_1 c1_2
  obtain ⟨c2_0, c2_1, c2_2⟩ := H2.out.box.cells
  have HG3 := Lib.hid (withoutTrip_any x k b o ca bl ol cl bt ot ct w2 H2.out.box.stops H2.out.box.lines H2.out.box.trips hx HX.out hk)
  go_wp2_with fail
  refine HG3.out.mono ?_
  rintro e w3 ⟨gs, ks, g, kl, p, r, gt, kt, rfl, hn, hb3⟩
  have H3 := Lib.hid (H2.out.call hb3)
  have HN3 := Lib.hid hn
  have hlt2 := H2.out.lt
  clear hn hb3 c2_0 c2_1 c2_2
  obtain ⟨t0, t1, t2⟩ := H3.out.res
  have f0 := H3.out.free 0
  have f1 := H3.out.free 1
  have f2 := H3.out.free 2
  go_wp2_with fail
  refine bodyPost_ret (v := .tuple #[.agg #[.slice (some ⟨gs, 0, none⟩) x.net.stops.length ks, .slice (some ⟨g, 0, none⟩) x.net.lines.length kl, .slice (some ⟨gt, 0, none⟩) (rmL x.trips k).length kt], .bool true]) (by simp [withTr, results, Try.results59, go_sem, t0, t1, t2]) rfl ?_
  refine retTt_eq HR.out ⟨some ⟨gs, 0, none⟩, ks, some ⟨g, 0, none⟩, kl, some ⟨gt, 0, none⟩, kt, rfl, ?_, ?_⟩
  · refine (TtN.lower (lo := w2.heap.size) ?_ (by omega)).tto (gs := gs) (g := g) (gt := gt) (p := p) (r := r)
    repeat' (refine TtN.set ?_ (by show w.heap.size + 1 < w2.heap.size; omega) _)
    exact HN3.out
  · repeat' (refine Below.setCell ?_ (by simp) _)
    exact H3.out.bel
set_option maxRecDepth 100000 in
set_option maxHeartbeats 4000000 in
theorem specRemove_no1 (x : TTD) (id : Int) (b o ca bl ol cl bt ot ct : Nat) (w : World) (hA : StrsIn w (Zone.below w.heap.size) (some ⟨b, o, none⟩) x.net.stops) (hL : LinesIn w (Zone.below w.heap.size) (some ⟨bl, ol, none⟩) x.net.lines) (hT : I3sIn w (Zone.below w.heap.size) (some ⟨bt, ot, none⟩) x.trips) (hx : FitsT x) (hb : ttB x = false) :
    Calls Try.prog 58 #[.agg #[.slice (some ⟨b, o, none⟩) x.net.stops.length ca, .slice (some ⟨bl, ol, none⟩) x.net.lines.length cl, .slice (some ⟨bt, ot, none⟩) x.trips.length ct], .int .i64 id] w (RetTt (rmR x id).1 (rmR x id).2 w) := by
  have HR := Lib.hid (rmR_no (x := x) (id := id) (.inl hb))
  obtain ⟨W0, hW0⟩ : ∃ W0, W0 = ((w.alloc (.cells #[.slice (some ⟨b, o, none⟩) x.net.stops.length ca, .slice (some ⟨bl, ol, none⟩) x.net.lines.length cl, .slice (some ⟨bt, ot, none⟩) x.trips.length ct] 49)).alloc (.cells #[.slice none 0 0, .slice none 0 0, .slice none 0 0] 49)) := ⟨_, rfl⟩
  have H0 : Hid (TW w W0 x (some ⟨b, o, none⟩) ca (some ⟨bl, ol, none⟩) cl (some ⟨bt, ot, none⟩) ct) := Lib.hid (by rw [hW0]; exact TW.start hA hL hT)
  have htl : x.trips.length ≤ 1048576 := hx.trips
  clear hA hL hT
  go_enter Try.func58, Try.ntmps58
  go_upto_region 1 with fail
  rw [← hW0]
  clear hW0
  obtain ⟨c0_0, c0_1, c0_2⟩ := H0.out.box.cells
  have HG1 := Lib.hid (l5Good_any x (some ⟨b, o, none⟩) (some ⟨bl, ol, none⟩) (some ⟨bt, ot, none⟩) ca cl ct W0 H0.out.box.stops H0.out.box.lines H0.out.box.trips hx)
  go_wp2_with fail
  refine HG1.out.mono ?_
  rintro e w1 ⟨rfl, hb1⟩
  rw [hb]
  clear hb
  have H1 := Lib.hid (H0.out.call hb1)
  have hz1 := hb1.size
  clear hb1 c0_0 c0_1 c0_2
  obtain ⟨c1_0, c1_1, c1_2⟩ := H1.out.box.cells
  obtain ⟨t0, t1, t2⟩ := H1.out.res
  have f0 := H1.out.free 0
  have f1 := H1.out.free 1
  have f2 := H1.out.free 2
  go_wp2_with fail
  refine bodyPost_ret (v := .tuple #[.agg #[.slice none 0 0, .slice none 0 0, .slice none 0 0], .bool false]) (by simp [results, Try.results58, go_sem, t0, t1, t2]) rfl ?_
  refine retTt_eq HR.out (retTt_zero ?_)
  repeat' (refine Below.setCell ?_ (by simp) _)
  exact H1.out.bel
set_option maxRecDepth 100000 in
set_option maxHeartbeats 4000000 in
theorem specRemove_no2 (x : TTD) (id : Int) (b o ca bl ol cl bt ot ct : Nat) (w : World) (hA : StrsIn w (Zone.below w.heap.size) (some ⟨b, o, none⟩) x.net.stops) (hL : LinesIn w (Zone.below w.heap.size) (some ⟨bl, ol, none⟩) x.net.lines) (hT : I3sIn w (Zone.below w.heap.size) (some ⟨bt, ot, none⟩) x.trips) (hx : FitsT x) (hb : ttB x = true) (hj : idI x.trips id < 0) :
    Calls Try.prog 58 #[.agg #[.slice (some ⟨b, o, none⟩) x.net.stops.length ca, .slice (some ⟨bl, ol, none⟩) x.net.lines.length cl, .slice (some ⟨bt, ot, none⟩) x.trips.length ct], .int .i64 id] w (RetTt (rmR x id).1 (rmR x id).2 w) := by
  have HR := Lib.hid (rmR_no (x := x) (id := id) (.inr hj))
  obtain ⟨W0, hW0⟩ : ∃ W0, W0 = ((w.alloc (.cells #[.slice (some ⟨b, o, none⟩) x.net.stops.length ca, .slice (some ⟨bl, ol, none⟩) x.net.lines.length cl, .slice (some ⟨bt, ot, none⟩) x.trips.length ct] 49)).alloc (.cells #[.slice none 0 0, .slice none 0 0, .slice none 0 0] 49)) := ⟨_, rfl⟩
  have H0 : Hid (TW w W0 x (some ⟨b, o, none⟩) ca (some ⟨bl, ol, none⟩) cl (some ⟨bt, ot, none⟩) ct) := Lib.hid (by rw [hW0]; exact TW.start hA hL hT)
  have htl : x.trips.length ≤ 1048576 := hx.trips
  clear hA hL hT
  go_enter Try.func58, Try.ntmps58
  go_upto_region 1 with fail
  rw [← hW0]
  clear hW0
  obtain ⟨c0_0, c0_1, c0_2⟩ := H0.out.box.cells
  have HG1 := Lib.hid (l5Good_any x (some ⟨b, o, none⟩) (some ⟨bl, ol, none⟩) (some ⟨bt, ot, none⟩) ca cl ct W0 H0.out.box.stops H0.out.box.lines H0.out.box.trips hx)
  go_wp2_with fail
  refine HG1.out.mono ?_
  rintro e w1 ⟨rfl, hb1⟩
  rw [hb]
  clear hb
  have H1 := Lib.hid (H0.out.call hb1)
  have hz1 := hb1.size
  clear hb1 c0_0 c0_1 c0_2
  obtain ⟨c1_0, c1_1, c1_2⟩ := H1.out.box.cells
  have HG2 := Lib.hid (l5Find_any x (some ⟨b, o, none⟩) (some ⟨bl, ol, none⟩) (some ⟨bt, ot, none⟩) ca cl ct id w1 H1.out.box.trips htl)
  go_wp2_with fail
  refine HG2.out.mono ?_
  rintro e w2 ⟨rfl, hb2⟩
  skip
  have H2 := Lib.hid (H1.out.call hb2)
  have hz2 := hb2.size
  clear hb2 c1_0 c1_1 c1_2
  obtain ⟨c2_0, c2_1, c2_2⟩ := H2.out.box.cells
  have hd : decide (idI x.trips id < 0) = true := decide_eq_true hj
  obtain ⟨t0, t1, t2⟩ := H2.out.res
  have f0 := H2.out.free 0
  have f1 := H2.out.free 1
  have f2 := H2.out.free 2
  go_wp2_with fail
  refine bodyPost_ret (v := .tuple #[.agg #[.slice none 0 0, .slice none 0 0, .slice none 0 0], .bool false]) (by simp [results, Try.results58, go_sem, t0, t1, t2]) rfl ?_
  refine retTt_eq HR.out (retTt_zero ?_)
  repeat' (refine Below.setCell ?_ (by simp) _)
  exact H2.out.bel
set_option maxRecDepth 100000 in
set_option maxHeartbeats 4000000 in
theorem specRemove_go (x : TTD) (id : Int) (b o ca bl ol cl bt ot ct : Nat) (w : World) (hA : StrsIn w (Zone.below w.heap.size) (some ⟨b, o, none⟩) x.net.stops) (hL : LinesIn w (Zone.below w.heap.size) (some ⟨bl, ol, none⟩) x.net.lines) (hT : I3sIn w (Zone.below w.heap.size) (some ⟨bt, ot, none⟩) x.trips) (hx : FitsT x) (hct : x.trips.length ≤ ct) (hb : ttB x = true) (hj : 0 ≤ idI x.trips id) :
    Calls Try.prog 58 #[.agg #[.slice (some ⟨b, o, none⟩) x.net.stops.length ca, .slice (some ⟨bl, ol, none⟩) x.net.lines.length cl, .slice (some ⟨bt, ot, none⟩) x.trips.length ct], .int .i64 id] w (RetTt (rmR x id).1 (rmR x id).2 w) := by
  obtain ⟨k, hk, hkk⟩ := idI_at hj
  have HX := Lib.hid (netX_of (ttB_net hb))
  have HR : Hid (rmR x id = (withTr x (rmL x.trips k), true)) := Lib.hid (by rw [rmR_yes hb hj]; unfold rmX; rw [hkk, Int.toNat_natCast])
  have HKK := Lib.hid hkk
  have hd : decide ((k : Int) < 0) = false := decide_eq_false (by omega)
  clear hj hkk
  obtain ⟨W0, hW0⟩ : ∃ W0, W0 = ((w.alloc (.cells #[.slice (some ⟨b, o, none⟩) x.net.stops.length ca, .slice (some ⟨bl, ol, none⟩) x.net.lines.length cl, .slice (some ⟨bt, ot, none⟩) x.trips.length ct] 49)).alloc (.cells #[.slice none 0 0, .slice none 0 0, .slice none 0 0] 49)) := ⟨_, rfl⟩
  have H0 : Hid (TW w W0 x (some ⟨b, o, none⟩) ca (some ⟨bl, ol, none⟩) cl (some ⟨bt, ot, none⟩) ct) := Lib.hid (by rw [hW0]; exact TW.start hA hL hT)
  have htl : x.trips.length ≤ 1048576 := hx.trips
  clear hA hL hT
  go_enter Try.func58, Try.ntmps58
  go_upto_region 1 with fail
  rw [← hW0]
  clear hW0
  obtain ⟨c0_0, c0_1, c0_2⟩ := H0.out.box.cells
  have HG1 := Lib.hid (l5Good_any x (some ⟨b, o, none⟩) (some ⟨bl, ol, none⟩) (some ⟨bt, ot, none⟩) ca cl ct W0 H0.out.box.stops H0.out.box.lines H0.out.box.trips hx)
  go_wp2_with fail
  refine HG1.out.mono ?_
  rintro e w1 ⟨rfl, hb1⟩
  rw [hb]
  clear hb
  have H1 := Lib.hid (H0.out.call hb1)
  have hz1 := hb1.size
  clear hb1 c0_0 c0_1 c0_2
  obtain ⟨c1_0, c1_1, c1_2⟩ := H1.out.box.cells
  have HG2 := Lib.hid (l5Find_any x (some ⟨b, o, none⟩) (some ⟨bl, ol, none⟩) (some ⟨bt, ot, none⟩) ca cl ct id w1 H1.out.box.trips htl)
  go_wp2_with fail
  refine HG2.out.mono ?_
  rintro e w2 ⟨rfl, hb2⟩
  rw [HKK.out]
  have H2 := Lib.hid (H1.out.call hb2)
  have hz2 := hb2.size
  clear hb2 c1_0 c1_1 c1_2
  obtain ⟨c2_0, c2_1, c2_2⟩ := H2.out.box.cells
  go_upto_region 3 with fail
  have hSL : SLn w2 (w.heap.size + 1) 3 w2 := ⟨Below.refl _ _, H2.out.has⟩
  have hC : ∀ w', SLn w2 (w.heap.size + 1) 3 w' → w'.cell? ⟨w.heap.size, 0, none⟩ = some (.slice (some ⟨b, o, none⟩) x.net.stops.length ca) ∧ w'.cell? ⟨w.heap.size, 1, none⟩ = some (.slice (some ⟨bl, ol, none⟩) x.net.lines.length cl) ∧ w'.cell? ⟨w.heap.size, 2, none⟩ = some (.slice (some ⟨bt, ot, none⟩) x.trips.length ct) := fun w' h => ⟨(h.bel.cell (p := ⟨w.heap.size, 0, none⟩) (Nat.lt_succ_self _)).trans H2.out.box.cells.1, (h.bel.cell (p := ⟨w.heap.size, 1, none⟩) (Nat.lt_succ_self _)).trans H2.out.box.cells.2.1, (h.bel.cell (p := ⟨w.heap.size, 2, none⟩) (Nat.lt_succ_self _)).trans H2.out.box.cells.2.2⟩
  have hTt : ∀ w', SLn w2 (w.heap.size + 1) 3 w' → (w'.cell? ⟨w.heap.size + 1, 0, none⟩ = some (getC w' (w.heap.size + 1) 0) ∧ w'.frozen? ⟨w.heap.size + 1, 0, none⟩ = false) ∧ (w'.cell? ⟨w.heap.size + 1, 1, none⟩ = some (getC w' (w.heap.size + 1) 1) ∧ w'.frozen? ⟨w.heap.size + 1, 1, none⟩ = false) ∧ (w'.cell? ⟨w.heap.size + 1, 2, none⟩ = some (getC w' (w.heap.size + 1) 2) ∧ w'.frozen? ⟨w.heap.size + 1, 2, none⟩ = false) := fun w' h => ⟨h.has.get (by omega), h.has.get (by omega), h.has.get (by omega)⟩
  have HSi := Lib.hid H2.out.box.stops0
  have HLi := Lib.hid H2.out.box.lines0
  have HTi := Lib.hid H2.out.box.trips0
  clear c2_0 c2_1 c2_2
  go_region_held3 (fun w' => SLn w2 (w.heap.size + 1) 3 w') (repeat' first | assumption | exact Nat.le_refl _ | (refine SLn.drew ?_) | (refine SLn.alloc ?_ _) | (refine SLn.set ?_ ?_ _))
    (first
      | (go_at_call 129; go_loud ((with_reducible refine (l5Find_any x (some ⟨b, o, none⟩) (some ⟨bl, ol, none⟩) (some ⟨bt, ot, none⟩) ca cl ct id _ (SLn.trs ‹SLn w2 (w.heap.size + 1) 3 _› HTi.out (Nat.le_succ _)) htl).mono ?_); rintro e w5 ⟨rfl, hb5⟩; rw [HKK.out]; have hS5 := SLn.call ‹SLn w2 (w.heap.size + 1) 3 _› hb5))
      | (go_at_call 136; go_loud ((with_reducible refine (l5Without_any x k b o ca bl ol cl bt ot ct _ (SLn.strs ‹SLn w2 (w.heap.size + 1) 3 _› HSi.out (Nat.le_succ _)) (SLn.lns ‹SLn w2 (w.heap.size + 1) 3 _› HLi.out (Nat.le_succ _)) (SLn.trs ‹SLn w2 (w.heap.size + 1) 3 _› HTi.out (Nat.le_succ _)) hx HX.out hk hct).mono ?_); rintro e w6 ⟨gs, ks, g, kl, p, r, gt, kt, rfl, hcap, hn, hb6⟩; have hS6 := SLn.call ‹SLn w2 (w.heap.size + 1) 3 _› hb6))
      | fail)
  all_goals
    obtain ⟨⟨t0, f0⟩, ⟨t1, f1⟩, ⟨t2, f2⟩⟩ := hTt _ hS6
    have hlt2 := hSL.has.1
    have hz5 := hS5.bel.size
    have HN6 := Lib.hid hn
    have HB6 := Lib.hid (H2.out.bel.trans (hS6.bel.mono (Nat.le_succ _)))
    clear hn hb5 hb6 hS5 hS6 hC hTt hSL
    go_wp2_with fail
    refine bodyPost_ret (v := .tuple #[.agg #[.slice (some ⟨gs, 0, none⟩) x.net.stops.length ks, .slice (some ⟨g, 0, none⟩) x.net.lines.length kl, .slice (some ⟨gt, 0, none⟩) (rmL x.trips k).length kt], .bool true]) (by simp [withTr, results, Try.results58, go_sem, t0, t1, t2]) rfl ?_
    refine retTt_eq HR.out ⟨some ⟨gs, 0, none⟩, ks, some ⟨g, 0, none⟩, kl, some ⟨gt, 0, none⟩, kt, rfl, ?_, ?_⟩
    · refine (TtN.lower (lo := w5.heap.size) ?_ (by omega)).tto (gs := gs) (g := g) (gt := gt) (p := p) (r := r)
      repeat' (refine TtN.set ?_ (by show w.heap.size + 1 < w5.heap.size; omega) _)
      exact HN6.out
    · repeat' (refine Below.setCell ?_ (by simp) _)
      exact HB6.out
set_option maxRecDepth 100000 in
set_option maxHeartbeats 4000000 in
theorem implRemoveTrip_any (x : TTD) (id : Int) (b o ca bl ol cl bt ot ct : Nat) (w : World) (hA : StrsIn w (Zone.below w.heap.size) (some ⟨b, o, none⟩) x.net.stops) (hL : LinesIn w (Zone.below w.heap.size) (some ⟨bl, ol, none⟩) x.net.lines) (hT : I3sIn w (Zone.below w.heap.size) (some ⟨bt, ot, none⟩) x.trips) (hx : FitsT x) :
    Calls Try.prog 59 #[.agg #[.slice (some ⟨b, o, none⟩) x.net.stops.length ca, .slice (some ⟨bl, ol, none⟩) x.net.lines.length cl, .slice (some ⟨bt, ot, none⟩) x.trips.length ct], .int .i64 id] w (RetTt (rmR x id).1 (rmR x id).2 w) := by
  cases hb : ttB x
  · exact implRemove_no1 x id b o ca bl ol cl bt ot ct w hA hL hT hx hb
  · by_cases hj : idI x.trips id < 0
    · exact implRemove_no2 x id b o ca bl ol cl bt ot ct w hA hL hT hx hb hj
    · exact implRemove_go x id b o ca bl ol cl bt ot ct w hA hL hT hx hb (by omega)
set_option maxRecDepth 100000 in
set_option maxHeartbeats 4000000 in
theorem specRemoveTrip_any (x : TTD) (id : Int) (b o ca bl ol cl bt ot ct : Nat) (w : World) (hA : StrsIn w (Zone.below w.heap.size) (some ⟨b, o, none⟩) x.net.stops) (hL : LinesIn w (Zone.below w.heap.size) (some ⟨bl, ol, none⟩) x.net.lines) (hT : I3sIn w (Zone.below w.heap.size) (some ⟨bt, ot, none⟩) x.trips) (hx : FitsT x) (hct : x.trips.length ≤ ct) :
    Calls Try.prog 58 #[.agg #[.slice (some ⟨b, o, none⟩) x.net.stops.length ca, .slice (some ⟨bl, ol, none⟩) x.net.lines.length cl, .slice (some ⟨bt, ot, none⟩) x.trips.length ct], .int .i64 id] w (RetTt (rmR x id).1 (rmR x id).2 w) := by
  cases hb : ttB x
  · exact specRemove_no1 x id b o ca bl ol cl bt ot ct w hA hL hT hx hb
  · by_cases hj : idI x.trips id < 0
    · exact specRemove_no2 x id b o ca bl ol cl bt ot ct w hA hL hT hx hb hj
    · exact specRemove_go x id b o ca bl ol cl bt ot ct w hA hL hT hx hct hb (by omega)
end Go.Proofs.Ytambgommeannnaa
