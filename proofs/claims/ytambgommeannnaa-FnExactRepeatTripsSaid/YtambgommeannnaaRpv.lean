/- RepeatTrips: the contracts joined. -/
import Derived.Test.YtambgommeannnaaRpu
import Derived.Deep.CutBlock
namespace Go.Proofs.Ytambgommeannnaa
open Go.ChangeShapes Go.WideShapes Go.ChangeAt Go.RowKit Go.PlainAid
set_option linter.unusedVariables false
set_option linter.unusedSimpArgs false

set_option maxRecDepth 100000 in
set_option maxHeartbeats 4000000 in
theorem implRepeatTrips_any (x : TTD) (l s t h : Int) (ht9 : t ≤ 9223372036854775807) (hh9 : h ≤ 9223372036854775807) (b o ca bl ol cl bt ot ct : Nat) (w : World) (hA : StrsIn w (Zone.below w.heap.size) (some ⟨b, o, none⟩) x.net.stops) (hL : LinesIn w (Zone.below w.heap.size) (some ⟨bl, ol, none⟩) x.net.lines) (hT : I3sIn w (Zone.below w.heap.size) (some ⟨bt, ot, none⟩) x.trips) (hx : FitsT x) (hct : x.trips.length ≤ ct) :
    Calls Try.prog 67 #[.agg #[.slice (some ⟨b, o, none⟩) x.net.stops.length ca, .slice (some ⟨bl, ol, none⟩) x.net.lines.length cl, .slice (some ⟨bt, ot, none⟩) x.trips.length ct], .int .i64 l, .int .i64 s, .int .i64 t, .int .i64 h] w (RetTtI (rpR x l s t h).1 (rpR x l s t h).2.1 (rpR x l s t h).2.2 w) := by
  cases hb : ttB x
  · exact implRepeat_no1 x l s t h b o ca bl ol cl bt ot ct w hA hL hT hx hb
  · cases hi : inB l 0 (x.net.lines.length - 1)
    · exact implRepeat_no2 x l s t h b o ca bl ol cl bt ot ct w hA hL hT hx hb hi
    · by_cases h1 : h < 1
      · exact implRepeat_no3 x l s t h b o ca bl ol cl bt ot ct w hA hL hT hx hb hi h1
      · cases htm : tmB s
        · exact implRepeat_no4 x l s t h b o ca bl ol cl bt ot ct w hA hL hT hx hb hi (by omega) htm
        · exact implRepeat_go x l s t h b o ca bl ol cl bt ot ct w hA hL hT hx hct hb hi htm (by omega) ht9 hh9
set_option maxRecDepth 100000 in
set_option maxHeartbeats 4000000 in
theorem specRepeatTrips_any (x : TTD) (l s t h : Int) (ht9 : t ≤ 9223372036854775807) (hh9 : h ≤ 9223372036854775807) (b o ca bl ol cl bt ot ct : Nat) (w : World) (hA : StrsIn w (Zone.below w.heap.size) (some ⟨b, o, none⟩) x.net.stops) (hL : LinesIn w (Zone.below w.heap.size) (some ⟨bl, ol, none⟩) x.net.lines) (hT : I3sIn w (Zone.below w.heap.size) (some ⟨bt, ot, none⟩) x.trips) (hx : FitsT x) (hct : x.trips.length ≤ ct) :
    Calls Try.prog 66 #[.agg #[.slice (some ⟨b, o, none⟩) x.net.stops.length ca, .slice (some ⟨bl, ol, none⟩) x.net.lines.length cl, .slice (some ⟨bt, ot, none⟩) x.trips.length ct], .int .i64 l, .int .i64 s, .int .i64 t, .int .i64 h] w (RetTtI (rpR x l s t h).1 (rpR x l s t h).2.1 (rpR x l s t h).2.2 w) := by
  cases hb : ttB x
  · exact specRepeat_no1 x l s t h b o ca bl ol cl bt ot ct w hA hL hT hx hb
  · cases hi : inB l 0 (x.net.lines.length - 1)
    · exact specRepeat_no2 x l s t h b o ca bl ol cl bt ot ct w hA hL hT hx hb hi
    · cases htm : tmB s
      · exact specRepeat_no3 x l s t h b o ca bl ol cl bt ot ct w hA hL hT hx hb hi htm
      · by_cases h1 : h < 1
        · exact specRepeat_no4 x l s t h b o ca bl ol cl bt ot ct w hA hL hT hx hb hi htm h1
        · exact specRepeat_go x l s t h b o ca bl ol cl bt ot ct w hA hL hT hx hct hb hi htm (by omega) ht9 hh9
end Go.Proofs.Ytambgommeannnaa
