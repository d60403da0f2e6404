/- Parsing a timetable: words and lines; plain law -/
import Derived.Test.YtpipegdjflniaaaDoorPna
import Derived.Test.YtpipegdjflniaaaDoorPt
import Derived.Test.YtpipegdjflniaaaDoorFtb
namespace Go.Proofs.YtpipegdjflniaaaDoor

/-! ### The text of a timetable as lines and words, and both parses of it; plain law. -/
section
open Go.ChangeShapes Go.WideShapes Go.ChangeAt Go.RowKit Go.PlainAid
set_option linter.unusedVariables false
set_option linter.unusedSimpArgs false

abbrev Wd := List UInt8
def stopW : Wd := [115, 116, 111, 112]
def lineW : Wd := [108, 105, 110, 101]
def tripW : Wd := [116, 114, 105, 112]
/-! ### Joins and splits -/
def jnc (c : UInt8) : List Wd → Wd
  | [] => []
  | a :: r => a ++ r.flatMap (fun w => c :: w)
theorem jnc_cons (c : UInt8) {ws : List Wd} (h : ws ≠ []) : ws.flatMap (fun w => c :: w) = c :: jnc c ws := by
  cases ws with
  | nil => exact absurd rfl h
  | cons a r => rw [List.flatMap_cons]; rfl
theorem jnc_cons' (c : UInt8) (a : Wd) (ws : List Wd) : jnc c (a :: ws) = a ++ ws.flatMap (fun w => c :: w) := rfl
theorem spw_jn (c : UInt8) : ∀ (ws : List Wd), ws ≠ [] → (∀ w ∈ ws, c ∉ w) → spw c (jnc c ws) = ws
  | [], h, _ => absurd rfl h
  | [a], _, h => by
    rw [jnc_cons', List.flatMap_nil, List.append_nil]
    exact spw_one (h a List.mem_cons_self)
  | a :: b :: r, _, h => by
    have ih := spw_jn c (b :: r) (by simp) (fun w hw => h w (List.mem_cons_of_mem _ hw))
    rw [jnc_cons', jnc_cons c (by simp), spw_sep (h a List.mem_cons_self), ih]
theorem jn_spw (c : UInt8) : ∀ l : Wd, jnc c (spw c l) = l
  | [] => rfl
  | x :: l => by
    have ih := jn_spw c l
    obtain ⟨p, r, e⟩ : ∃ p r, spw c l = p :: r := by
      cases h2 : spw c l with
      | nil => exact absurd h2 (spw_ne c l)
      | cons p r => exact ⟨p, r, rfl⟩
    unfold spw
    split
    · rename_i hx
      rw [jnc_cons', jnc_cons c (spw_ne c l), ih, hx]
      rfl
    · rw [e] at ih ⊢
      simp only [List.head?_cons, Option.getD_some, List.tail_cons]
      rw [jnc_cons'] at ih ⊢
      rw [List.cons_append, ih]
/-- Lines, each with a newline behind it. -/
def nlJ (ls : List Wd) : Wd := ls.flatMap (fun l => l ++ [10])
theorem nlJ_jn : ∀ (ls : List Wd), ls ≠ [] → nlJ ls = jnc 10 ls ++ [10]
  | [], h => absurd rfl h
  | [a], _ => by simp [nlJ, jnc]
  | a :: b :: r, _ => by
    have ih := nlJ_jn (b :: r) (by simp)
    unfold nlJ at ih ⊢
    rw [List.flatMap_cons, ih, jnc_cons' 10 a, jnc_cons 10 (by simp)]
    simp
theorem spw_nl : ∀ (ls : List Wd), (∀ w ∈ ls, (10 : UInt8) ∉ w) → spw 10 (nlJ ls) = ls ++ [[]]
  | [], _ => rfl
  | a :: r, h => by
    have ih := spw_nl r (fun w hw => h w (List.mem_cons_of_mem _ hw))
    unfold nlJ at ih ⊢
    rw [List.flatMap_cons, List.append_assoc]
    show spw 10 (a ++ 10 :: r.flatMap (fun l => l ++ [10])) = _
    rw [spw_sep (h a List.mem_cons_self), ih]
    rfl

/-! ### Words of a line, of a trip -/
def sW (ss : List ByteArray) (s : Int) : Wd := (nthS ss s.toNat).data.toList
def alt (ss : List ByteArray) : List Int → List Int → List Wd
  | [], _ => []
  | s :: st, [] => sW ss s :: alt ss st []
  | s :: st, r :: rs => sW ss s :: num r :: alt ss st rs
def lnWs (ss : List ByteArray) (y : LineD) : List Wd := lineW :: y.name.data.toList :: alt ss y.stops y.runs
def tpWs (ls : List LineD) (t : I3) : List Wd := [tripW, num t.a, (nthL ls t.b.toNat).name.data.toList, (clk t.c.toNat).data.toList]
def stWs (s : ByteArray) : List Wd := [stopW, s.data.toList]
def txW (x : TTD) : List (List Wd) := x.net.stops.map stWs ++ (x.net.lines.map (lnWs x.net.stops) ++ x.trips.map (tpWs x.net.lines))
def timL (x : TTD) : Wd := nlJ ((txW x).map (jnc 32))
theorem alt_snoc (ss : List ByteArray) (s : Int) : ∀ (st rs : List Int), alt ss (st ++ [s]) rs = alt ss st rs ++ sW ss s :: (if st.length < rs.length then [num (nth rs st.length)] else [])
  | [], [] => rfl
  | [], r :: rs => rfl
  | a :: st, [] => by
    have ih := alt_snoc ss s st []
    rw [List.cons_append, alt, ih]
    rfl
  | a :: st, r :: rs => by
    have ih := alt_snoc ss s st rs
    rw [List.cons_append, alt, ih, alt]
    have e : nth (r :: rs) (a :: st).length = nth rs st.length := rfl
    rw [e]
    simp
theorem alt_stop (ss : List ByteArray) (s : Int) {st rs : List Int} (h : rs.length = st.length) : alt ss (st ++ [s]) rs = alt ss st rs ++ [sW ss s] := by
  rw [alt_snoc, if_neg (by omega)]
theorem alt_run (ss : List ByteArray) (r : Int) : ∀ (st rs : List Int), st.length = rs.length + 1 → alt ss st (rs ++ [r]) = alt ss st rs ++ [num r]
  | [], rs, h => by simp at h
  | [a], [], _ => rfl
  | a :: b :: st, [], h => by simp at h
  | a :: st, q :: rs, h => by
    have ih := alt_run ss r st rs (by simpa using h)
    rw [List.cons_append, alt, ih]
    rfl

/-! ### The text is what the reference builds -/
theorem take_nthS {xs : List ByteArray} {k : Nat} (h : k < xs.length) : xs.take (k + 1) = xs.take k ++ [nthS xs k] := by
  rw [List.take_succ_eq_append_getElem h]
  congr 2
  unfold nthS
  rw [List.getD_eq_getElem?_getD, List.getElem?_eq_getElem h]
  rfl
theorem take_nthL {xs : List LineD} {k : Nat} (h : k < xs.length) : xs.take (k + 1) = xs.take k ++ [nthL xs k] := by
  rw [List.take_succ_eq_append_getElem h]
  congr 2
  unfold nthL
  rw [List.getD_eq_getElem?_getD, List.getElem?_eq_getElem h]
  rfl
theorem take_nth3 {xs : List I3} {k : Nat} (h : k < xs.length) : xs.take (k + 1) = xs.take k ++ [nth3 xs k] := by
  rw [List.take_succ_eq_append_getElem h]
  congr 2
  unfold nth3
  rw [List.getD_eq_getElem?_getD, List.getElem?_eq_getElem h]
  rfl
theorem take_nth {xs : List Int} {k : Nat} (h : k < xs.length) : xs.take (k + 1) = xs.take k ++ [nth xs k] := by
  rw [List.take_succ_eq_append_getElem h]
  congr 2
  unfold nth
  rw [List.getD_eq_getElem?_getD, List.getElem?_eq_getElem h]
  rfl
theorem bs_lit (s : ByteArray) : s = bs s.data.toList := (bs_self s).symm
theorem stT_list (x : NetD) : ∀ k, k ≤ x.stops.length → stT x k = bs (nlJ ((x.stops.take k).map fun s => jnc 32 (stWs s)))
  | 0, _ => rfl
  | k + 1, h => by
    rw [stT, stT_list x k (by omega), take_nthS (by omega)]
    conv => lhs; arg 1; arg 2; rw [bs_lit (nthS x.stops k)]
    rw [show (⟨#[115, 116, 111, 112, 32]⟩ : ByteArray) = bs [115, 116, 111, 112, 32] from rfl, show (⟨#[10]⟩ : ByteArray) = bs [10] from rfl]
    simp only [bs_append]
    congr 1
    simp [nlJ, jnc, stWs, stopW]
theorem wdT_list (x : NetD) (y : LineD) (s : Wd) : ∀ k, k ≤ y.stops.length → wdT x y (bs s) k = bs (s ++ (alt x.stops (y.stops.take k) y.runs).flatMap (fun w => 32 :: w))
  | 0, _ => by simp [wdT, alt]
  | k + 1, h => by
    have ih := wdT_list x y s k (by omega)
    rw [wdT, ih, take_nth (by omega), alt_snoc, List.length_take, Nat.min_eq_left (by omega)]
    have e : sN x y k = bs (sW x.stops (nth y.stops k)) := bs_lit _
    have e2 : rN y k = bs (num (nth y.runs k)) := rfl
    rw [e, e2, show (⟨#[32]⟩ : ByteArray) = bs [32] from rfl]
    split
    · simp only [bs_append]
      congr 1
      simp
    · simp only [bs_append]
      congr 1
      simp
theorem lnT_list (x : NetD) : ∀ i, i ≤ x.lines.length → lnT x i = bs (nlJ (x.stops.map fun s => jnc 32 (stWs s)) ++ nlJ ((x.lines.take i).map fun y => jnc 32 (lnWs x.stops y)))
  | 0, _ => by
    rw [lnT, stT_list x _ (Nat.le_refl _), List.take_length]
    simp [nlJ]
  | i + 1, h => by
    rw [lnT, lnT_list x i (by omega), take_nthL (by omega)]
    conv => lhs; arg 1; arg 3; arg 2; rw [bs_lit (nthL x.lines i).name]
    rw [show (⟨#[108, 105, 110, 101, 32]⟩ : ByteArray) = bs [108, 105, 110, 101, 32] from rfl, show (⟨#[10]⟩ : ByteArray) = bs [10] from rfl, bs_append, bs_append, wdT_list x _ _ _ (Nat.le_refl _), List.take_length, bs_append]
    congr 1
    simp [nlJ, jnc, lnWs, lineW]
theorem tmT_list (x : TTD) : ∀ k, k ≤ x.trips.length → tmT x k = bs (nlJ (x.net.stops.map fun s => jnc 32 (stWs s)) ++ nlJ (x.net.lines.map fun y => jnc 32 (lnWs x.net.stops y)) ++ nlJ ((x.trips.take k).map fun t => jnc 32 (tpWs x.net.lines t)))
  | 0, _ => by
    rw [tmT]
    unfold netT
    rw [lnT_list x.net _ (Nat.le_refl _), List.take_length]
    simp [nlJ]
  | k + 1, h => by
    rw [tmT, tmT_list x k (by omega), take_nth3 (by omega)]
    have e1 : iN x k = bs (num (nth3 x.trips k).a) := rfl
    have e2 : (lnI x k).name = bs (nthL x.net.lines (nth3 x.trips k).b.toNat).name.data.toList := bs_lit _
    have e3 : cN x k = bs (clk (nth3 x.trips k).c.toNat).data.toList := bs_lit _
    rw [e1, e2, e3, show (⟨#[116, 114, 105, 112, 32]⟩ : ByteArray) = bs [116, 114, 105, 112, 32] from rfl, show (⟨#[10]⟩ : ByteArray) = bs [10] from rfl, show (⟨#[32]⟩ : ByteArray) = bs [32] from rfl]
    simp only [bs_append]
    congr 1
    simp [nlJ, jnc, tpWs, tripW]
theorem timT_list (x : TTD) : timT x = bs (timL x) := by
  unfold timT timL txW
  rw [tmT_list x _ (Nat.le_refl _), List.take_length]
  congr 1
  simp [nlJ, List.flatMap_map]

/-! ### Times -/
def b5 (l : Wd) (k : Nat) : Int := bt (bs l) k
instance (a b c d e : Int) : Decidable (ptOk a b c d e) := by unfold ptOk; exact inferInstance
def tmK (l : Wd) : Bool := decide (l.length = 5 ∧ ptOk (b5 l 0) (b5 l 1) (b5 l 2) (b5 l 3) (b5 l 4))
def tmV (l : Wd) : Int := if tmK l = true then ptVal (b5 l 0) (b5 l 1) (b5 l 3) (b5 l 4) else 0
theorem tm_some {l : Wd} (h : tmK l = true) : l = (clk (tmV l).toNat).data.toList ∧ 0 ≤ tmV l ∧ tmV l ≤ 1799 := by
  have h1 : l.length = 5 ∧ _ := of_decide_eq_true h
  have h2 := (clk_iff (bs l) (by rw [bs_size]; exact h1.1)).2 h1.2
  have e : tmV l = ptVal (b5 l 0) (b5 l 1) (b5 l 3) (b5 l 4) := by unfold tmV; rw [if_pos h]
  rw [e]
  refine ⟨?_, h2.1, h2.2.1⟩
  unfold b5
  rw [h2.2.2, bs_list]
theorem clk_all : ∀ t : Fin 1800, ptVal (bt (clk t.1) 0) (bt (clk t.1) 1) (bt (clk t.1) 3) (bt (clk t.1) 4) = t.1 := by decide +kernel
theorem tm_clk {t : Int} (h0 : 0 ≤ t) (h1 : t ≤ 1799) : tmK (clk t.toNat).data.toList = true ∧ tmV (clk t.toNat).data.toList = t := by
  have h2 := clk_all ⟨t.toNat, by omega⟩
  simp only at h2
  have e : bs (clk t.toNat).data.toList = clk t.toNat := bs_self _
  have h5 : (clk t.toNat).size = 5 := clk_size _
  have hk : tmK (clk t.toNat).data.toList = true := by
    unfold tmK b5
    rw [e]
    refine decide_eq_true ⟨by rw [list_of_size]; exact h5, (clk_iff _ h5).1 ?_⟩
    rw [h2]
    exact ⟨by omega, by omega, rfl⟩
  refine ⟨hk, ?_⟩
  unfold tmV b5
  rw [if_pos hk, e, h2]
  omega

/-! ### The steps of both parses -/
def emT : TTD := ⟨⟨[], []⟩, []⟩
def adStop (x : TTD) (s : ByteArray) : TTD := ⟨⟨x.net.stops ++ [s], x.net.lines⟩, x.trips⟩
def adLine (x : TTD) (y : LineD) : TTD := ⟨⟨x.net.stops, x.net.lines ++ [y]⟩, x.trips⟩
def adTrip (x : TTD) (t : I3) : TTD := ⟨x.net, x.trips ++ [t]⟩
def lnS (y : LineD) (s : Int) : LineD := ⟨y.name, y.stops ++ [s], y.runs⟩
def lnR (y : LineD) (r : Int) : LineD := ⟨y.name, y.stops, y.runs ++ [r]⟩
/-- The program's line: the words from the i-th on. -/
def pLnE (ss : List ByteArray) : Nat → List Wd → LineD → Option LineD
  | _, [], y => some y
  | i, w :: r, y =>
    if i % 2 = 1 then (if rdK w = true then pLnE ss (i + 1) r (lnR y (rdV w)) else none)
    else if ixS ss (bs w) < 0 then none else pLnE ss (i + 1) r (lnS y (ixS ss (bs w)))
def pLn (ss : List ByteArray) (ws : List Wd) : Option LineD := if ws.length < 3 ∨ ws.length % 2 = 0 then none else pLnE ss 0 (ws.drop 2) ⟨bs (ws.getD 1 []), [], []⟩
def pTr (ls : List LineD) (ws : List Wd) : Option I3 :=
  if ws.length ≠ 4 then none
  else if rdK (ws.getD 1 []) = false then none
  else if ixS (namesOf ls) (bs (ws.getD 2 [])) < 0 ∨ tmK (ws.getD 3 []) = false then none
  else some ⟨rdV (ws.getD 1 []), ixS (namesOf ls) (bs (ws.getD 2 [])), tmV (ws.getD 3 [])⟩
def pcS (x : TTD) (ws : List Wd) : Option TTD :=
  if ws.getD 0 [] = stopW then (if ws.length = 2 ∧ x.net.lines.length = 0 ∧ x.trips.length = 0 then some (adStop x (bs (ws.getD 1 []))) else none)
  else if ws.getD 0 [] = lineW then (match pLn x.net.stops ws with | none => none | some y => if x.trips.length = 0 then some (adLine x y) else none)
  else if ws.getD 0 [] = tripW then (match pTr x.net.lines ws with | none => none | some t => some (adTrip x t))
  else none
/-- The reference's line. -/
def sLnE (ss : List ByteArray) : Nat → List Wd → LineD → Option LineD
  | _, [], y => some y
  | i, w :: r, y =>
    if i % 2 = 0 then sLnE ss (i + 1) r (lnS y (ixS ss (bs w)))
    else if rdK w = true then sLnE ss (i + 1) r (lnR y (rdV w)) else none
def psS (x : TTD) (ws : List Wd) : Option TTD :=
  if ws.getD 0 [] = stopW ∧ ws.length = 2 then some (adStop x (bs (ws.getD 1 [])))
  else if ws.getD 0 [] = lineW ∧ 2 < ws.length then (match sLnE x.net.stops 2 (ws.drop 2) ⟨bs (ws.getD 1 []), [], []⟩ with | none => none | some y => some (adLine x y))
  else if ws.getD 0 [] = tripW ∧ ws.length = 4 then
    (if rdK (ws.getD 1 []) = true ∧ tmK (ws.getD 3 []) = true then some (adTrip x ⟨rdV (ws.getD 1 []), ixS (namesOf x.net.lines) (bs (ws.getD 2 [])), tmV (ws.getD 3 [])⟩) else none)
  else none
def gLs (step : TTD → List Wd → Option TTD) : List Wd → TTD → Option TTD
  | [], x => some x
  | l :: ls, x => match step x (spw 32 l) with | none => none | some y => gLs step ls y
def pcT (l : Wd) : Option TTD :=
  if l.length ≤ 4000 ∧ l.getLast? = some 10 then
    match gLs pcS (spw 10 l.dropLast) emT with
    | none => none
    | some x => if ttB x = true then some x else none
  else none
def psT (l : Wd) : Option TTD :=
  if l.length ≤ 4000 ∧ (spw 10 l).getLast? = some [] then
    match gLs psS (spw 10 l).dropLast emT with
    | none => none
    | some x => if ttB x = true ∧ timL x = l then some x else none
  else none
end

/-! ### Both parses of a timetable agree; plain law. -/
section
open Go.ChangeShapes Go.WideShapes Go.ChangeAt Go.RowKit Go.PlainAid
set_option linter.unusedVariables false
set_option linter.unusedSimpArgs false

/-! ### Names and their places -/
theorem eqAtS_eq {xs : List ByteArray} {x : ByteArray} {k : Nat} (h : eqAtS xs x k = true) : nthS xs k = x := by
  unfold eqAtS at h
  exact ba_toList_inj (eq_of_beq h)
theorem ixN_some {n : Nat} {p : Nat → Bool} (h : ¬ ixN n p < 0) : ∃ k, k < n ∧ p k = true ∧ ixN n p = k := by
  unfold ixN at h ⊢
  cases hf : (List.range n).find? p with
  | none => rw [hf] at h; exact absurd (by decide : (-1 : Int) < 0) h
  | some k =>
    have h1 := List.find?_some hf
    have h2 := List.mem_of_find?_eq_some hf
    exact ⟨k, List.mem_range.1 h2, h1, rfl⟩
theorem ixS_some {xs : List ByteArray} {x : ByteArray} (h : ¬ ixS xs x < 0) : ∃ k : Nat, k < xs.length ∧ ixS xs x = k ∧ nthS xs k = x := by
  obtain ⟨k, h1, h2, h3⟩ := ixN_some h
  exact ⟨k, h1, h3, eqAtS_eq h2⟩
theorem name_no {s : ByteArray} (h : nameB s = true) {c : UInt8} (hc : c.toNat < 48) : c ∉ s.data.toList := by
  have hn : IsName s := of_decide_eq_true h
  intro hm
  obtain ⟨k, hk, e⟩ := List.mem_iff_getElem.1 hm
  have hk' : k < s.size := by rw [list_of_size] at hk; exact hk
  have h2 := hn.2.2 k hk'
  have h3 := bt_get s k hk'
  rw [List.getElem?_eq_getElem hk, e] at h3
  simp only [Option.some.injEq] at h3
  rw [← h3] at h2
  unfold okByte at h2
  omega
theorem dec_no48 {n : Nat} {c : UInt8} (hc : c.toNat < 48) : c ∉ dec n := dec_no (by
  unfold isDg
  simp only [Bool.and_eq_false_iff, decide_eq_false_iff_not]
  left
  intro h
  have h1 : 48 ≤ c.toNat := by simpa using h
  omega)
theorem num_no48 {n : Int} (h : 0 ≤ n) {c : UInt8} (hc : c.toNat < 48) : c ∉ num n := by rw [num_nn h]; exact dec_no48 hc
theorem clk_no : ∀ t : Fin 1800, (32 : UInt8) ∉ (clk t.1).data.toList ∧ (10 : UInt8) ∉ (clk t.1).data.toList := by decide +kernel

/-! ### What a valid line, a valid trip is -/
structure LnV (ss : List ByteArray) (y : LineD) : Prop where
  len : y.stops.length = y.runs.length + 1
  run0 : 0 < y.runs.length
  nm : nameB y.name = true
  stop : ∀ s ∈ y.stops, 0 ≤ s ∧ nameB (nthS ss s.toNat) = true ∧ ixS ss (nthS ss s.toNat) = s
  run : ∀ r ∈ y.runs, 0 ≤ r ∧ r ≤ 999
structure TpV (ls : List LineD) (t : I3) : Prop where
  a0 : 0 ≤ t.a
  a1 : t.a ≤ 999
  b0 : 0 ≤ t.b
  nm : nameB (nthL ls t.b.toNat).name = true
  ix : ixS (namesOf ls) (nthL ls t.b.toNat).name = t.b
  c0 : 0 ≤ t.c
  c1 : t.c ≤ 1799
theorem mem_nthI {xs : List Int} {x : Int} (h : x ∈ xs) : ∃ k, k < xs.length ∧ x = nth xs k := by
  obtain ⟨k, hk, e⟩ := List.mem_iff_getElem.1 h
  refine ⟨k, hk, ?_⟩
  unfold nth
  rw [List.getD_eq_getElem?_getD, List.getElem?_eq_getElem hk, ← e]
  rfl
theorem mem_nthL {xs : List LineD} {x : LineD} (h : x ∈ xs) : ∃ k, k < xs.length ∧ x = nthL xs k := by
  obtain ⟨k, hk, e⟩ := List.mem_iff_getElem.1 h
  refine ⟨k, hk, ?_⟩
  unfold nthL
  rw [List.getD_eq_getElem?_getD, List.getElem?_eq_getElem hk, ← e]
  rfl
theorem mem_nthS {xs : List ByteArray} {x : ByteArray} (h : x ∈ xs) : ∃ k, k < xs.length ∧ x = nthS xs k := by
  obtain ⟨k, hk, e⟩ := List.mem_iff_getElem.1 h
  refine ⟨k, hk, ?_⟩
  unfold nthS
  rw [List.getD_eq_getElem?_getD, List.getElem?_eq_getElem hk, ← e]
  rfl
theorem mem_nth3 {xs : List I3} {x : I3} (h : x ∈ xs) : ∃ k, k < xs.length ∧ x = nth3 xs k := by
  obtain ⟨k, hk, e⟩ := List.mem_iff_getElem.1 h
  refine ⟨k, hk, ?_⟩
  unfold nth3
  rw [List.getD_eq_getElem?_getD, List.getElem?_eq_getElem hk, ← e]
  rfl
theorem netB_lnV {x : NetD} (h : netB x = true) : (∀ s ∈ x.stops, nameB s = true) ∧ (∀ y ∈ x.lines, LnV x.stops y) ∧ 0 < x.stops.length ∧ 0 < x.lines.length := by
  have n := netB_ok h
  have hs := inB_iff.mp n.stops
  have hl := inB_iff.mp n.lines
  have ns : AreNames x.stops := of_decide_eq_true n.names
  have nl : AreNames (namesOf x.lines) := of_decide_eq_true n.lnames
  refine ⟨fun s hm => ?_, fun y hm => ?_, by omega, by omega⟩
  · obtain ⟨k, hk, rfl⟩ := mem_nthS hm
    exact (ns k hk).1
  · obtain ⟨i, hi, rfl⟩ := mem_nthL hm
    have ln : LineOk x.stops.length (nthL x.lines i) := of_decide_eq_true (n.each i hi)
    have hd := ln.1
    unfold LineHd at hd
    refine ⟨by omega, by omega, ?_, fun s hs => ?_, fun r hr => ?_⟩
    · have h1 := (nl i (by rw [namesOf_length]; exact hi)).1
      rw [nthS_names hi] at h1
      exact h1
    · obtain ⟨k, hk, rfl⟩ := mem_nthI hs
      have h1 := (ln.2.1 k hk).1
      rw [inB_iff] at h1
      have h2 := ns (nth (nthL x.lines i).stops k).toNat (by omega)
      exact ⟨h1.1, h2.1, by rw [h2.2]; omega⟩
    · obtain ⟨k, hk, rfl⟩ := mem_nthI hr
      have h1 := ln.2.2 k hk
      unfold RunOk at h1
      rw [inB_iff] at h1
      omega
theorem ttB_tpV {x : TTD} (h : ttB x = true) : ∀ t ∈ x.trips, TpV x.net.lines t := fun t hm => by
  obtain ⟨i, hi, rfl⟩ := mem_nth3 hm
  have tp := tpX_of h hi
  have ti := ti_of h hi
  have b0 := ti.b0
  have b1 := ti.b1
  have n := netB_ok (ttB_ok h).1
  have nl : AreNames (namesOf x.net.lines) := of_decide_eq_true n.lnames
  have h2 := nl (nth3 x.trips i).b.toNat (by rw [namesOf_length]; omega)
  rw [nthS_names (by omega)] at h2
  have := tp.a0
  exact ⟨by omega, tp.a1, b0, h2.1, by rw [h2.2]; omega, tp.c0, tp.c1⟩

/-! ### Both parses read the text of a valid timetable -/
theorem rd_num {n : Int} (h0 : 0 ≤ n) (h1 : n ≤ 999) : rdK (num n) = true ∧ rdV (num n) = n := by
  have := rd_yes (rdO_num (n := n) (by omega) (by omega))
  exact ⟨this.2, this.1⟩
theorem pLnE_alt (ss : List ByteArray) : ∀ (st rs : List Int) (i : Nat) (y : LineD), i % 2 = 0 → st.length = rs.length + 1 → (∀ s ∈ st, 0 ≤ s ∧ nameB (nthS ss s.toNat) = true ∧ ixS ss (nthS ss s.toNat) = s) → (∀ r ∈ rs, 0 ≤ r ∧ r ≤ 999) → pLnE ss i (alt ss st rs) y = some ⟨y.name, y.stops ++ st, y.runs ++ rs⟩
  | [], rs, i, y, _, h, _, _ => by simp at h
  | [s], [], i, y, hi, _, hs, _ => by
    obtain ⟨h0, _, h2⟩ := hs s List.mem_cons_self
    have e : bs (sW ss s) = nthS ss s.toNat := bs_self _
    rw [alt, alt, pLnE, if_neg (by omega), e, h2, if_neg (by omega), pLnE]
    simp [lnS]
  | a :: b :: st, [], i, y, _, h, _, _ => by simp at h
  | s :: st, r :: rs, i, y, hi, h, hs, hr => by
    obtain ⟨h0, _, h2⟩ := hs s List.mem_cons_self
    obtain ⟨r0, r1⟩ := hr r List.mem_cons_self
    have e : bs (sW ss s) = nthS ss s.toNat := bs_self _
    have hn := rd_num r0 r1
    rw [alt, pLnE, if_neg (by omega), e, h2, if_neg (by omega), pLnE, if_pos (by omega), if_pos hn.1, hn.2]
    rw [pLnE_alt ss st rs (i + 1 + 1) _ (by omega) (by simpa using h) (fun x hx => hs x (List.mem_cons_of_mem _ hx)) (fun x hx => hr x (List.mem_cons_of_mem _ hx))]
    simp [lnS, lnR]
theorem sLnE_alt (ss : List ByteArray) : ∀ (st rs : List Int) (i : Nat) (y : LineD), i % 2 = 0 → st.length = rs.length + 1 → (∀ s ∈ st, 0 ≤ s ∧ nameB (nthS ss s.toNat) = true ∧ ixS ss (nthS ss s.toNat) = s) → (∀ r ∈ rs, 0 ≤ r ∧ r ≤ 999) → sLnE ss i (alt ss st rs) y = some ⟨y.name, y.stops ++ st, y.runs ++ rs⟩
  | [], rs, i, y, _, h, _, _ => by simp at h
  | [s], [], i, y, hi, _, hs, _ => by
    obtain ⟨h0, _, h2⟩ := hs s List.mem_cons_self
    have e : bs (sW ss s) = nthS ss s.toNat := bs_self _
    rw [alt, alt, sLnE, if_pos hi, e, h2, sLnE]
    simp [lnS]
  | a :: b :: st, [], i, y, _, h, _, _ => by simp at h
  | s :: st, r :: rs, i, y, hi, h, hs, hr => by
    obtain ⟨h0, _, h2⟩ := hs s List.mem_cons_self
    obtain ⟨r0, r1⟩ := hr r List.mem_cons_self
    have e : bs (sW ss s) = nthS ss s.toNat := bs_self _
    have hn := rd_num r0 r1
    rw [alt, sLnE, if_pos hi, e, h2, sLnE, if_neg (by omega), if_pos hn.1, hn.2]
    rw [sLnE_alt ss st rs (i + 1 + 1) _ (by omega) (by simpa using h) (fun x hx => hs x (List.mem_cons_of_mem _ hx)) (fun x hx => hr x (List.mem_cons_of_mem _ hx))]
    simp [lnS, lnR]
theorem alt_len (ss : List ByteArray) : ∀ (st rs : List Int), st.length = rs.length + 1 → (alt ss st rs).length = 2 * rs.length + 1
  | [], rs, h => by simp at h
  | [s], [], _ => rfl
  | a :: b :: st, [], h => by simp at h
  | s :: st, r :: rs, h => by
    have ih := alt_len ss st rs (by simpa using h)
    rw [alt]
    simp only [List.length_cons]
    omega
theorem alt_no (ss : List ByteArray) {c : UInt8} (hc : c.toNat < 48) : ∀ (st rs : List Int), (∀ s ∈ st, nameB (nthS ss s.toNat) = true) → (∀ r ∈ rs, 0 ≤ r) → ∀ w ∈ alt ss st rs, c ∉ w
  | [], rs, _, _, w, hw => by simp [alt] at hw
  | s :: st, [], hs, hr, w, hw => by
    rw [alt] at hw
    rcases List.mem_cons.1 hw with hw | hw
    · rw [hw]; exact name_no (hs s List.mem_cons_self) hc
    · exact alt_no ss hc st [] (fun x hx => hs x (List.mem_cons_of_mem _ hx)) hr w hw
  | s :: st, r :: rs, hs, hr, w, hw => by
    rw [alt] at hw
    rcases List.mem_cons.1 hw with hw | hw
    · rw [hw]; exact name_no (hs s List.mem_cons_self) hc
    · rcases List.mem_cons.1 hw with hw | hw
      · rw [hw]; exact num_no48 (hr r List.mem_cons_self) hc
      · exact alt_no ss hc st rs (fun x hx => hs x (List.mem_cons_of_mem _ hx)) (fun x hx => hr x (List.mem_cons_of_mem _ hx)) w hw
/-- No word holds a blank or a newline. -/
theorem stWs_no {s : ByteArray} (h : nameB s = true) {c : UInt8} (hc : c.toNat < 48) : ∀ w ∈ stWs s, c ∉ w := by
  intro w hw
  simp only [stWs, List.mem_cons, List.not_mem_nil, or_false] at hw
  rcases hw with rfl | rfl
  · intro hq
    simp only [stopW, List.mem_cons, List.not_mem_nil, or_false] at hq
    rcases hq with rfl | rfl | rfl | rfl <;> revert hc <;> decide
  · exact name_no h hc
theorem lnWs_no {ss : List ByteArray} {y : LineD} (h : LnV ss y) {c : UInt8} (hc : c.toNat < 48) : ∀ w ∈ lnWs ss y, c ∉ w := by
  intro w hw
  simp only [lnWs, List.mem_cons] at hw
  rcases hw with rfl | rfl | hw
  · intro hq
    simp only [lineW, List.mem_cons, List.not_mem_nil, or_false] at hq
    rcases hq with rfl | rfl | rfl | rfl <;> revert hc <;> decide
  · exact name_no h.nm hc
  · exact alt_no ss hc _ _ (fun s hs => (h.stop s hs).2.1) (fun r hr => (h.run r hr).1) w hw
theorem tpWs_no {ls : List LineD} {t : I3} (h : TpV ls t) {c : UInt8} (hc : c = 32 ∨ c = 10) : ∀ w ∈ tpWs ls t, c ∉ w := by
  have hc' : c.toNat < 48 := by rcases hc with rfl | rfl <;> decide
  intro w hw
  simp only [tpWs, List.mem_cons, List.not_mem_nil, or_false] at hw
  rcases hw with rfl | rfl | rfl | rfl
  · intro hq
    simp only [tripW, List.mem_cons, List.not_mem_nil, or_false] at hq
    rcases hq with rfl | rfl | rfl | rfl <;> revert hc <;> decide
  · exact num_no48 h.a0 hc'
  · exact name_no h.nm hc'
  · have h1 := h.c0
    have h2 := h.c1
    have h3 := clk_no ⟨t.c.toNat, by omega⟩
    rcases hc with rfl | rfl
    · exact h3.1
    · exact h3.2
/-- What both steps have in common. -/
structure StepOk (step : TTD → List Wd → Option TTD) : Prop where
  st : ∀ (x : TTD) (s : ByteArray), x.net.lines = [] → x.trips = [] → step x (stWs s) = some (adStop x s)
  ln : ∀ (x : TTD) (y : LineD), x.trips = [] → LnV x.net.stops y → step x (lnWs x.net.stops y) = some (adLine x y)
  tp : ∀ (x : TTD) (t : I3), TpV x.net.lines t → step x (tpWs x.net.lines t) = some (adTrip x t)
theorem pcS_ok : StepOk pcS where
  st := fun x s h1 h2 => by
    unfold pcS stWs
    simp only [List.getD_cons_zero, List.getD_cons_succ, List.length_cons, List.length_nil]
    rw [if_pos trivial, if_pos ⟨trivial, by rw [h1]; rfl, by rw [h2]; rfl⟩, bs_self]
  ln := fun x y h1 h => by
    have hl := alt_len x.net.stops y.stops y.runs h.len
    have hp : pLn x.net.stops (lnWs x.net.stops y) = some y := by
      unfold pLn lnWs
      simp only [List.getD_cons_zero, List.getD_cons_succ, List.length_cons, List.drop_succ_cons, List.drop_zero]
      rw [if_neg (by omega), bs_self, pLnE_alt x.net.stops _ _ 0 _ rfl h.len h.stop h.run]
      simp
    unfold pcS
    have e0 : (lnWs x.net.stops y).getD 0 [] = lineW := rfl
    rw [e0, if_neg (by decide), if_pos rfl, hp]
    simp only [h1]
    rfl
  tp := fun x t h => by
    have hn := rd_num h.a0 h.a1
    have hc := tm_clk h.c0 h.c1
    have hp : pTr x.net.lines (tpWs x.net.lines t) = some t := by
      have h0 := h.b0
      unfold pTr tpWs
      simp only [List.getD_cons_zero, List.getD_cons_succ, List.length_cons, List.length_nil]
      rw [if_neg (by simp), hn.1, hn.2, if_neg (by simp), bs_self, h.ix, hc.1, hc.2, if_neg (by simp; omega)]
    unfold pcS
    have e0 : (tpWs x.net.lines t).getD 0 [] = tripW := rfl
    rw [e0, if_neg (by decide), if_neg (by decide), if_pos rfl, hp]
theorem psS_ok : StepOk psS where
  st := fun x s h1 h2 => by
    unfold psS stWs
    simp only [List.getD_cons_zero, List.getD_cons_succ, List.length_cons, List.length_nil]
    rw [if_pos ⟨trivial, trivial⟩, bs_self]
  ln := fun x y h1 h => by
    have hl := alt_len x.net.stops y.stops y.runs h.len
    have e0 : (lnWs x.net.stops y).getD 0 [] = lineW := rfl
    have e2 : (lnWs x.net.stops y).length = 2 * y.runs.length + 3 := by simp [lnWs, hl]
    have hp : sLnE x.net.stops 2 ((lnWs x.net.stops y).drop 2) ⟨bs ((lnWs x.net.stops y).getD 1 []), [], []⟩ = some y := by
      unfold lnWs
      simp only [List.getD_cons_zero, List.getD_cons_succ, List.drop_succ_cons, List.drop_zero]
      rw [bs_self, sLnE_alt x.net.stops _ _ 2 _ rfl h.len h.stop h.run]
      simp
    unfold psS
    rw [e0, if_neg (fun h => absurd h.1 (by decide)), if_pos ⟨rfl, by omega⟩, hp]
  tp := fun x t h => by
    have hn := rd_num h.a0 h.a1
    have hc := tm_clk h.c0 h.c1
    unfold psS
    have e0 : (tpWs x.net.lines t).getD 0 [] = tripW := rfl
    rw [e0, if_neg (fun h => absurd h.1 (by decide)), if_neg (fun h => absurd h.1 (by decide))]
    unfold tpWs
    simp only [List.getD_cons_zero, List.getD_cons_succ, List.length_cons, List.length_nil]
    rw [if_pos (by simp), hn.1, hn.2, bs_self, h.ix, hc.1, hc.2, if_pos (by simp)]
section
variable {step : TTD → List Wd → Option TTD}
theorem gLs_app (a b : List Wd) : ∀ x y, gLs step a x = some y → gLs step (a ++ b) x = gLs step b y := by
  induction a with
  | nil => intro x y h; simp [gLs] at h; rw [h]; rfl
  | cons l a ih =>
    intro x y h
    change (match step x (spw 32 l) with | none => none | some z => gLs step a z) = some y at h
    show (match step x (spw 32 l) with | none => none | some z => gLs step (a ++ b) z) = gLs step b y
    split at h
    · cases h
    · rename_i z hz
      exact ih z y h
theorem gLs_stops (hs : StepOk step) : ∀ (ss : List ByteArray) (x : TTD), x.net.lines = [] → x.trips = [] → (∀ s ∈ ss, nameB s = true) → gLs step (ss.map fun s => jnc 32 (stWs s)) x = some ⟨⟨x.net.stops ++ ss, []⟩, []⟩
  | [], x, h1, h2, _ => by
    obtain ⟨⟨a, b⟩, c⟩ := x
    simp only at h1 h2
    subst h1 h2
    simp [gLs]
  | s :: ss, x, h1, h2, h => by
    have hq : spw 32 (jnc 32 (stWs s)) = stWs s := spw_jn 32 _ (by simp [stWs]) (stWs_no (h s List.mem_cons_self) (by decide))
    rw [List.map_cons, gLs, hq, hs.st x s h1 h2]
    show gLs step _ (adStop x s) = _
    rw [gLs_stops hs ss (adStop x s) h1 h2 (fun y hy => h y (List.mem_cons_of_mem _ hy))]
    simp [adStop]
theorem gLs_lines (hs : StepOk step) : ∀ (ls : List LineD) (x : TTD), x.trips = [] → (∀ y ∈ ls, LnV x.net.stops y) → gLs step (ls.map fun y => jnc 32 (lnWs x.net.stops y)) x = some ⟨⟨x.net.stops, x.net.lines ++ ls⟩, []⟩
  | [], x, h2, _ => by
    obtain ⟨⟨a, b⟩, c⟩ := x
    simp only at h2
    subst h2
    simp [gLs]
  | y :: ls, x, h2, h => by
    have hq : spw 32 (jnc 32 (lnWs x.net.stops y)) = lnWs x.net.stops y := spw_jn 32 _ (by simp [lnWs]) (lnWs_no (h y List.mem_cons_self) (by decide))
    rw [List.map_cons, gLs, hq, hs.ln x y h2 (h y List.mem_cons_self)]
    show gLs step _ (adLine x y) = _
    have ih := gLs_lines hs ls (adLine x y) h2 (fun z hz => h z (List.mem_cons_of_mem _ hz))
    rw [show (adLine x y).net.stops = x.net.stops from rfl] at ih
    rw [ih]
    simp [adLine]
theorem gLs_trips (hs : StepOk step) : ∀ (ts : List I3) (x : TTD), (∀ t ∈ ts, TpV x.net.lines t) → gLs step (ts.map fun t => jnc 32 (tpWs x.net.lines t)) x = some ⟨x.net, x.trips ++ ts⟩
  | [], x, _ => by simp [gLs]
  | t :: ts, x, h => by
    have hq : spw 32 (jnc 32 (tpWs x.net.lines t)) = tpWs x.net.lines t := spw_jn 32 _ (by simp [tpWs]) (tpWs_no (h t List.mem_cons_self) (.inl rfl))
    rw [List.map_cons, gLs, hq, hs.tp x t (h t List.mem_cons_self)]
    show gLs step _ (adTrip x t) = _
    have ih := gLs_trips hs ts (adTrip x t) (fun z hz => h z (List.mem_cons_of_mem _ hz))
    rw [show (adTrip x t).net = x.net from rfl] at ih
    rw [ih]
    simp [adTrip]
theorem gLs_text (hs : StepOk step) {x : TTD} (h : ttB x = true) : gLs step ((txW x).map (jnc 32)) emT = some x := by
  obtain ⟨v1, v2, _, _⟩ := netB_lnV (ttB_ok h).1
  have v3 := ttB_tpV h
  have q1 := gLs_stops hs x.net.stops emT rfl rfl v1
  have q2 := gLs_lines hs x.net.lines ⟨⟨[] ++ x.net.stops, []⟩, []⟩ rfl v2
  have q3 := gLs_trips hs x.trips ⟨⟨x.net.stops, [] ++ x.net.lines⟩, []⟩ v3
  unfold txW
  rw [List.map_append, List.map_append, List.map_map, List.map_map, List.map_map]
  simp only [List.nil_append] at q2 q3
  have q1' : gLs step (x.net.stops.map (jnc 32 ∘ stWs)) emT = some ⟨⟨x.net.stops, []⟩, []⟩ := q1
  rw [gLs_app _ _ _ _ q1']
  have q2' : gLs step (x.net.lines.map (jnc 32 ∘ lnWs x.net.stops)) ⟨⟨x.net.stops, []⟩, []⟩ = some ⟨⟨x.net.stops, x.net.lines⟩, []⟩ := q2
  rw [gLs_app _ _ _ _ q2']
  exact q3
end
theorem jnc_no {c d : UInt8} : ∀ (ws : List Wd), d ≠ c → (∀ w ∈ ws, d ∉ w) → d ∉ jnc c ws
  | [], _, _ => by simp [jnc]
  | a :: r, hcd, h => by
    rw [jnc_cons', List.mem_append, List.mem_flatMap]
    rintro (hq | ⟨w, hw, hq⟩)
    · exact h a List.mem_cons_self hq
    · rcases List.mem_cons.1 hq with hq | hq
      · exact hcd hq
      · exact h w (List.mem_cons_of_mem _ hw) hq
theorem tx_no {x : TTD} (h : ttB x = true) : ∀ l ∈ (txW x).map (jnc 32), (10 : UInt8) ∉ l := by
  obtain ⟨v1, v2, _, _⟩ := netB_lnV (ttB_ok h).1
  have v3 := ttB_tpV h
  intro l hl
  obtain ⟨ws, hws, rfl⟩ := List.mem_map.1 hl
  refine jnc_no ws (by decide) ?_
  unfold txW at hws
  rw [List.mem_append, List.mem_append, List.mem_map, List.mem_map, List.mem_map] at hws
  rcases hws with ⟨s, hs, rfl⟩ | ⟨y, hy, rfl⟩ | ⟨t, ht, rfl⟩
  · exact stWs_no (v1 s hs) (by decide)
  · exact lnWs_no (v2 y hy) (by decide)
  · exact tpWs_no (v3 t ht) (.inr rfl)
theorem tx_ne {x : TTD} (h : ttB x = true) : (txW x).map (jnc 32) ≠ [] := by
  obtain ⟨_, _, h1, _⟩ := netB_lnV (ttB_ok h).1
  intro e
  have e2 := List.map_eq_nil_iff.1 e
  unfold txW at e2
  have e3 := List.map_eq_nil_iff.1 (List.append_eq_nil_iff.1 e2).1
  rw [e3] at h1
  simp at h1
theorem timL_size {x : TTD} (h : ttB x = true) : (timL x).length ≤ 4000 := by
  have h1 := tmT_le h (Nat.le_refl x.trips.length)
  have e : tmT x x.trips.length = bs (timL x) := timT_list x
  rw [e, bs_size] at h1
  omega
theorem pcT_text {x : TTD} (h : ttB x = true) : pcT (timL x) = some x := by
  have e : timL x = jnc 10 ((txW x).map (jnc 32)) ++ [10] := nlJ_jn _ (tx_ne h)
  unfold pcT
  rw [if_pos ⟨timL_size h, by rw [e, List.getLast?_append]; rfl⟩, e, List.dropLast_concat, spw_jn 10 _ (tx_ne h) (tx_no h), gLs_text pcS_ok h]
  show (if ttB x = true then some x else none) = some x
  rw [if_pos h]
theorem psT_text {x : TTD} (h : ttB x = true) : psT (timL x) = some x := by
  have e : spw 10 (timL x) = (txW x).map (jnc 32) ++ [[]] := spw_nl _ (tx_no h)
  unfold psT
  rw [e, if_pos ⟨timL_size h, by rw [List.getLast?_append]; rfl⟩, List.dropLast_concat, gLs_text psS_ok h]
  show (if ttB x = true ∧ timL x = timL x then some x else none) = some x
  rw [if_pos ⟨h, rfl⟩]

/-! ### What the program's parse accepts is the text of what it answers -/
theorem pLnE_sound (ss : List ByteArray) : ∀ (ws : List Wd) (i : Nat) (y z : LineD), pLnE ss i ws y = some z → (if i % 2 = 0 then y.runs.length = y.stops.length else y.stops.length = y.runs.length + 1) → alt ss z.stops z.runs = alt ss y.stops y.runs ++ ws ∧ z.name = y.name
  | [], i, y, z, h, _ => by simp [pLnE] at h; rw [h]; simp
  | w :: ws, i, y, z, h, hp => by
    unfold pLnE at h
    split at h
    · rename_i hi
      rw [if_neg (by omega)] at hp
      split at h
      · rename_i hr
        have ih := pLnE_sound ss ws (i + 1) _ z h (by rw [if_pos (by omega)]; simp [lnR]; omega)
        refine ⟨?_, ih.2⟩
        rw [ih.1]
        show alt ss y.stops (y.runs ++ [rdV w]) ++ ws = _
        rw [alt_run ss _ _ _ hp, ← (rd_some hr).1]
        simp
      · cases h
    · rename_i hi
      rw [if_pos (by omega)] at hp
      split at h
      · cases h
      · rename_i hx
        obtain ⟨k, hk, e, hn⟩ := ixS_some hx
        have ih := pLnE_sound ss ws (i + 1) _ z h (by rw [if_neg (by omega)]; simp [lnS]; omega)
        refine ⟨?_, ih.2⟩
        rw [ih.1]
        show alt ss (y.stops ++ [ixS ss (bs w)]) y.runs ++ ws = _
        have e2 : sW ss (ixS ss (bs w)) = w := by
          unfold sW
          rw [e, Int.toNat_natCast, hn, bs_list]
        rw [alt_stop ss _ hp, e2]
        simp
theorem ws_two {ws : List Wd} {n : Nat} (h : ws.length = n + 2) : ws = ws.getD 0 [] :: ws.getD 1 [] :: ws.drop 2 := by
  match ws, h with
  | a :: b :: r, _ => rfl
theorem pcS_sound {x z : TTD} {ws : List Wd} (h : pcS x ws = some z) : txW z = txW x ++ [ws] := by
  unfold pcS at h
  split at h
  · rename_i h0
    split at h
    · rename_i h1
      simp only [Option.some.injEq] at h
      subst h
      obtain ⟨h1, h2, h3⟩ := h1
      have e2 := List.length_eq_zero_iff.1 h2
      have e3 := List.length_eq_zero_iff.1 h3
      have e : ws = stWs (bs (ws.getD 1 [])) := by
        unfold stWs
        rw [bs_list, ← h0]
        conv => lhs; rw [ws_two (n := 0) h1]
        rw [List.drop_eq_nil_of_le (by omega)]
      unfold txW adStop
      simp only [e2, e3]
      conv => rhs; rw [e]
      simp
    · cases h
  · split at h
    · rename_i h0
      split at h
      · cases h
      · rename_i y hy
        split at h
        · rename_i h3
          simp only [Option.some.injEq] at h
          subst h
          have e3 := List.length_eq_zero_iff.1 h3
          unfold pLn at hy
          split at hy
          · cases hy
          · rename_i hc
            have hs := pLnE_sound x.net.stops _ 0 _ y hy (by simp)
            have e : ws = lnWs x.net.stops y := by
              unfold lnWs
              rw [hs.1, hs.2, ← h0]
              show ws = _ :: (bs (ws.getD 1 [])).data.toList :: ([] ++ ws.drop 2)
              rw [bs_list, List.nil_append]
              exact ws_two (n := ws.length - 2) (by omega)
            unfold txW adLine
            simp only [e3]
            conv => rhs; rw [e]
            simp
        · cases h
    · split at h
      · rename_i h0
        split at h
        · cases h
        · rename_i t ht
          simp only [Option.some.injEq] at h
          subst h
          unfold pTr at ht
          split at ht
          · cases ht
          · rename_i h4
            split at ht
            · cases ht
            · rename_i hr
              split at ht
              · cases ht
              · rename_i hb
                simp only [Option.some.injEq] at ht
                subst ht
                simp only [not_or] at hb
                obtain ⟨k, hk, e, hn⟩ := ixS_some hb.1
                have hr' : rdK (ws.getD 1 []) = true := by cases hq : rdK (ws.getD 1 []) <;> simp_all
                have ht' : tmK (ws.getD 3 []) = true := by cases hq : tmK (ws.getD 3 []) <;> simp_all
                have e1 := (rd_some hr').1
                have e3 := (tm_some ht').1
                have e2 : (nthL x.net.lines (ixS (namesOf x.net.lines) (bs (ws.getD 2 []))).toNat).name.data.toList = ws.getD 2 [] := by
                  rw [namesOf_length] at hk
                  rw [e, Int.toNat_natCast, ← nthS_names hk, hn, bs_list]
                have hl : ws = [ws.getD 0 [], ws.getD 1 [], ws.getD 2 [], ws.getD 3 []] := by
                  have h4' : ws.length = 4 := by omega
                  match ws, h4' with
                  | [a, b, c, d], _ => rfl
                have ew : ws = tpWs x.net.lines ⟨rdV (ws.getD 1 []), ixS (namesOf x.net.lines) (bs (ws.getD 2 [])), tmV (ws.getD 3 [])⟩ := by
                  unfold tpWs
                  rw [e2, ← e1, ← e3, ← h0]
                  exact hl
                unfold txW adTrip
                conv => rhs; rw [ew]
                simp
      · cases h
theorem gLs_sound : ∀ (ls : List Wd) (x z : TTD), gLs pcS ls x = some z → txW z = txW x ++ ls.map (spw 32)
  | [], x, z, h => by simp [gLs] at h; rw [h]; simp
  | l :: ls, x, z, h => by
    unfold gLs at h
    split at h
    · cases h
    · rename_i y hy
      rw [gLs_sound ls y z h, pcS_sound hy]
      simp
theorem pcT_sound {l : Wd} {x : TTD} (h : pcT l = some x) : ttB x = true ∧ timL x = l := by
  unfold pcT at h
  split at h
  · rename_i h1
    split at h
    · cases h
    · rename_i y hy
      split at h
      · rename_i hv
        simp only [Option.some.injEq] at h
        subst h
        refine ⟨hv, ?_⟩
        have e := gLs_sound _ _ _ hy
        have e2 : txW emT = [] := rfl
        rw [e2, List.nil_append] at e
        have hm : (txW y).map (jnc 32) = spw 10 l.dropLast := by
          rw [e, List.map_map]
          conv => rhs; rw [← List.map_id (spw 10 l.dropLast)]
          exact List.map_congr_left fun a _ => jn_spw 32 a
        unfold timL
        rw [hm, nlJ_jn _ (spw_ne 10 _), jn_spw]
        obtain ⟨a, ha⟩ : ∃ a, l = a ++ [10] := by
          rcases List.eq_nil_or_concat l with hq | ⟨a, b, hq⟩
          · rw [hq] at h1; simp at h1
          · refine ⟨a, ?_⟩
            rw [hq] at h1 ⊢
            have := h1.2
            simp at this
            rw [this]
            simp
        rw [ha, List.dropLast_concat]
      · cases h
  · cases h
theorem psT_sound {l : Wd} {x : TTD} (h : psT l = some x) : ttB x = true ∧ timL x = l := by
  unfold psT at h
  split at h
  · split at h
    · cases h
    · split at h
      · rename_i hc
        simp only [Option.some.injEq] at h
        subst h
        exact hc
      · cases h
  · cases h
/-- Both parses agree. -/
theorem pt_eq (l : Wd) : pcT l = psT l := by
  cases h : psT l with
  | some x =>
    obtain ⟨h1, h2⟩ := psT_sound h
    rw [← h2]
    exact pcT_text h1
  | none =>
    cases h2 : pcT l with
    | none => rfl
    | some x =>
      obtain ⟨h3, h4⟩ := pcT_sound h2
      rw [← h4, psT_text h3] at h
      cases h
end
end Go.Proofs.YtpipegdjflniaaaDoor
