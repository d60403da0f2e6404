/- The parse of a calendar: what both sides compute, and that they agree; plain law. -/
import Derived.Test.YtpipegdjflniaaaPna
import Derived.Test.YtpipegdjflniaaaFca
import Derived.Test.YtpipegdjflniaaaFit
namespace Go.Proofs.Ytpipegdjflniaaa
open Go.ChangeShapes Go.WideShapes Go.ChangeAt Go.RowKit Go.PlainAid
set_option linter.unusedVariables false
set_option linter.unusedSimpArgs false

/-! ### The text as a list -/
def wkL (d : Int) : List UInt8 := (List.range 7).map (dyC d)
def enL (c : UInt8) (xs : List Int) : List UInt8 := xs.flatMap fun x => 32 :: c :: num x
def calL (f t d : Int) (us vs : List Int) : List UInt8 := num f ++ 45 :: (num t ++ 32 :: (wkL d ++ (enL 43 us ++ enL 45 vs)))
theorem app_nil (s : ByteArray) : s = s ++ bs [] := by
  apply ByteArray.ext
  simp [bs]
theorem dyT_list (d : Int) (s : ByteArray) (k : Nat) : dyT d s k = s ++ bs ((List.range k).map (dyC d)) := by
  induction k with
  | zero => exact app_nil s
  | succ k ih =>
    rw [dyT, ih, List.range_succ, List.map_append, ← bs_append, ← ByteArray.append_assoc]
    rfl
theorem dlT_list (c : UInt8) (xs : List Int) (s : ByteArray) : ∀ k, k ≤ xs.length → dlT ⟨#[32, c]⟩ xs s k = s ++ bs (enL c (xs.take k))
  | 0, _ => app_nil s
  | k + 1, hk => by
    rw [dlT, dlT_list c xs s k (by omega)]
    have e : xs.take (k + 1) = xs.take k ++ [nth xs k] := by
      rw [List.take_succ_eq_append_getElem (by omega)]
      congr 2
      unfold nth
      rw [List.getD_eq_getElem?_getD, List.getElem?_eq_getElem (by omega)]
      rfl
    rw [e]
    unfold enL
    rw [List.flatMap_append, List.flatMap_cons, List.flatMap_nil, List.append_nil, ← bs_append, ByteArray.append_assoc, ByteArray.append_assoc]
    congr 2
theorem calT_list (f t d : Int) (us vs : List Int) : calT f t d us vs = bs (calL f t d us vs) := by
  unfold calT
  rw [dlT_list 45 vs _ _ (Nat.le_refl _), dlT_list 43 us _ _ (Nat.le_refl _), dyT_list, List.take_length, List.take_length]
  unfold hdT calL wkL
  rw [show (⟨#[45]⟩ : ByteArray) = bs [45] from rfl, show (⟨#[32]⟩ : ByteArray) = bs [32] from rfl]
  simp only [bs_append]
  congr 1
  simp

/-! ### The weekdays -/
def wkK (m : List UInt8) : Nat → Bool
  | 0 => true
  | k + 1 => wkK m k && (m[k]? == some (wkC k) || m[k]? == some 46)
def wkV (m : List UInt8) : Nat → Nat
  | 0 => 0
  | k + 1 => if m[k]? = some (wkC k) then wkV m k ||| 2 ^ k else wkV m k
def wkS (m : List UInt8) : Nat → Nat
  | 0 => 0
  | k + 1 => if m[k]? = some 46 then wkS m k else wkS m k ||| 2 ^ k
theorem wkV_lt (m : List UInt8) : ∀ k, k ≤ 7 → wkV m k < 128
  | 0, _ => by unfold wkV; omega
  | k + 1, hk => by
    have ih := wkV_lt m k (by omega)
    unfold wkV
    split
    · have : wkV m k ||| 2 ^ k < 2 ^ 7 := Nat.or_lt_two_pow (by omega) (by have := pow_small (k := k) (by omega); omega)
      omega
    · exact ih
theorem wkS_lt (m : List UInt8) : ∀ k, k ≤ 7 → wkS m k < 128
  | 0, _ => by unfold wkS; omega
  | k + 1, hk => by
    have ih := wkS_lt m k (by omega)
    unfold wkS
    split
    · exact ih
    · have : wkS m k ||| 2 ^ k < 2 ^ 7 := Nat.or_lt_two_pow (by omega) (by have := pow_small (k := k) (by omega); omega)
      omega
theorem wkV_app {m r : List UInt8} : ∀ {k : Nat}, k ≤ m.length → wkV (m ++ r) k = wkV m k
  | 0, _ => rfl
  | k + 1, hk => by
    unfold wkV
    rw [wkV_app (k := k) (by omega), List.getElem?_append_left (by omega)]
theorem wkK_app {m r : List UInt8} : ∀ {k : Nat}, k ≤ m.length → wkK (m ++ r) k = wkK m k
  | 0, _ => rfl
  | k + 1, hk => by
    unfold wkK
    rw [wkK_app (k := k) (by omega), List.getElem?_append_left (by omega)]
theorem wk_all : ∀ d : Fin 128, wkV (wkL d.1) 7 = d.1 ∧ wkK (wkL d.1) 7 = true ∧ wkS (wkL d.1) 7 = d.1 := by decide +kernel
theorem wkL_len (d : Int) : (wkL d).length = 7 := by simp [wkL]
theorem wkL_ok {d : Int} (h0 : 0 ≤ d) (h1 : d ≤ 127) : (wkV (wkL d) 7 : Int) = d ∧ wkK (wkL d) 7 = true ∧ (wkS (wkL d) 7 : Int) = d := by
  have := wk_all ⟨d.toNat, by omega⟩
  simp only at this
  rw [show ((d.toNat : Nat) : Int) = d by omega] at this
  refine ⟨by rw [this.1]; omega, this.2.1, by rw [this.2.2]; omega⟩
def wkM (b0 b1 b2 b3 b4 b5 b6 : Bool) : List UInt8 := [if b0 then 109 else 46, if b1 then 116 else 46, if b2 then 119 else 46, if b3 then 116 else 46, if b4 then 102 else 46, if b5 then 115 else 46, if b6 then 115 else 46]
theorem wkM_ok : ∀ b0 b1 b2 b3 b4 b5 b6 : Bool, wkL (wkV (wkM b0 b1 b2 b3 b4 b5 b6) 7) = wkM b0 b1 b2 b3 b4 b5 b6 := by decide +kernel
theorem wk_bit {m : List UInt8} {k : Nat} (h : (m[k]? == some (wkC k) || m[k]? == some 46) = true) : ∃ b : Bool, m[k]? = some (if b then wkC k else 46) := by
  simp only [Bool.or_eq_true, beq_iff_eq] at h
  rcases h with h | h
  · exact ⟨true, h⟩
  · exact ⟨false, h⟩
theorem wk_back {m : List UInt8} (h : wkK m 7 = true) : wkL (wkV m 7) ++ m.drop 7 = m := by
  simp only [wkK, Bool.true_and, Bool.and_eq_true] at h
  obtain ⟨⟨⟨⟨⟨⟨h0, h1⟩, h2⟩, h3⟩, h4⟩, h5⟩, h6⟩ := h
  obtain ⟨b0, e0⟩ := wk_bit h0
  obtain ⟨b1, e1⟩ := wk_bit h1
  obtain ⟨b2, e2⟩ := wk_bit h2
  obtain ⟨b3, e3⟩ := wk_bit h3
  obtain ⟨b4, e4⟩ := wk_bit h4
  obtain ⟨b5, e5⟩ := wk_bit h5
  obtain ⟨b6, e6⟩ := wk_bit h6
  have hl : 7 ≤ m.length := by have := (List.getElem?_eq_some_iff.1 e6).1; omega
  have hm : m = wkM b0 b1 b2 b3 b4 b5 b6 ++ m.drop 7 := by
    match m, hl with
    | x0 :: x1 :: x2 :: x3 :: x4 :: x5 :: x6 :: r, _ =>
      simp at e0 e1 e2 e3 e4 e5 e6
      subst e0 e1 e2 e3 e4 e5 e6
      rfl
  rw [hm]
  generalize m.drop 7 = r
  rw [wkV_app (k := 7) (by simp [wkM]), wkM_ok]
  congr 1

/-! ### The program's parse -/
def pcE : Nat → List UInt8 → List Int → List Int → Option (List Int × List Int)
  | 0, _, _, _ => none
  | n + 1, l, us, vs =>
    if l = [] then some (us, vs)
    else if l.length < 3 ∨ l.head? ≠ some 32 then none
    else if natB (l.drop 2) = false then none
    else if l[1]? = some 43 ∧ vs = [] then pcE n (natR (l.drop 2)) (us ++ [natV (l.drop 2)]) vs
    else if l[1]? = some 45 then pcE n (natR (l.drop 2)) us (vs ++ [natV (l.drop 2)])
    else none
abbrev CalV := Int × Int × Int × List Int × List Int
def pcC (l : List UInt8) : Option CalV :=
  if natB l = true ∧ (natR l).head? = some 45 then
    if natB ((natR l).drop 1) = true ∧ 8 ≤ (natR ((natR l).drop 1)).length ∧ (natR ((natR l).drop 1)).head? = some 32 then
      if wkK ((natR ((natR l).drop 1)).drop 1) 7 = true then
        match pcE ((natR ((natR l).drop 1)).length) ((natR ((natR l).drop 1)).drop 8) [] [] with
        | none => none
        | some (us, vs) => if calB (natV l) (natV ((natR l).drop 1)) (wkV ((natR ((natR l).drop 1)).drop 1) 7) us vs = true then some (natV l, natV ((natR l).drop 1), (wkV ((natR ((natR l).drop 1)).drop 1) 7 : Int), us, vs) else none
      else none
    else none
  else none
/-! ### The reference's parse -/
def psE : List (List UInt8) → List Int → List Int → Option (List Int × List Int)
  | [], us, vs => some (us, vs)
  | p :: ps, us, vs =>
    if p = [] then none
    else if rdK (p.drop 1) = false then none
    else if p.head? = some 43 then psE ps (us ++ [rdV (p.drop 1)]) vs
    else psE ps us (vs ++ [rdV (p.drop 1)])
def psC (l : List UInt8) : Option CalV :=
  if l.length ≤ 150 ∧ 2 ≤ (spw 32 l).length ∧ ((spw 32 l).getD 1 []).length = 7 then
    if (spw 45 ((spw 32 l).getD 0 [])).length = 2 then
      if rdK ((spw 45 ((spw 32 l).getD 0 [])).getD 0 []) = true ∧ rdK ((spw 45 ((spw 32 l).getD 0 [])).getD 1 []) = true then
        match psE ((spw 32 l).drop 2) [] [] with
        | none => none
        | some (us, vs) =>
          if calB (rdV ((spw 45 ((spw 32 l).getD 0 [])).getD 0 [])) (rdV ((spw 45 ((spw 32 l).getD 0 [])).getD 1 [])) (wkS ((spw 32 l).getD 1 []) 7) us vs = true ∧
             calL (rdV ((spw 45 ((spw 32 l).getD 0 [])).getD 0 [])) (rdV ((spw 45 ((spw 32 l).getD 0 [])).getD 1 [])) (wkS ((spw 32 l).getD 1 []) 7) us vs = l
          then some (rdV ((spw 45 ((spw 32 l).getD 0 [])).getD 0 []), rdV ((spw 45 ((spw 32 l).getD 0 [])).getD 1 []), (wkS ((spw 32 l).getD 1 []) 7 : Int), us, vs) else none
      else none
    else none
  else none

/-! ### Both on the text of a valid calendar -/
theorem cal_bd {f t d : Int} {us vs : List Int} (h : calB f t d us vs = true) : (0 ≤ f ∧ f ≤ 3650) ∧ (0 ≤ t ∧ t ≤ 3650) ∧ (0 ≤ d ∧ d ≤ 127) ∧ us.length ≤ 8 ∧ vs.length ≤ 8 ∧ (∀ x ∈ us, 0 ≤ x ∧ x ≤ 3650) ∧ ∀ x ∈ vs, 0 ≤ x ∧ x ≤ 3650 := by
  have gk : CalOk f t d us vs := of_decide_eq_true h
  obtain ⟨⟨f0, f1, f2, d0, d1, n1, n2⟩, hu, hv, _, _⟩ := gk
  refine ⟨⟨by omega, by omega⟩, ⟨by omega, by omega⟩, ⟨by omega, by omega⟩, by omega, by omega, fun x hx => ?_, fun x hx => ?_⟩
  · obtain ⟨k, hk, rfl⟩ := mem_nth hx
    have := (hu k hk).1
    omega
  · obtain ⟨k, hk, rfl⟩ := mem_nth hx
    have := (hv k hk).1
    omega
theorem enL_head (c : UInt8) (xs : List Int) : ∀ b, (enL c xs).head? = some b → b = 32 := by
  intro b h
  cases xs with
  | nil => simp [enL] at h
  | cons x xs => simp [enL] at h; exact h.symm
theorem en_head (us vs : List Int) : ∀ b, (enL 43 us ++ enL 45 vs).head? = some b → isDg b = false := by
  intro b h
  have h32 : b = 32 := by
    cases us with
    | nil => exact enL_head 45 vs b (by simpa [enL] using h)
    | cons x xs => exact enL_head 43 (x :: xs) b (by simpa [enL] using h)
  subst h32; rfl
theorem enL_cons (c : UInt8) (x : Int) (xs : List Int) : enL c (x :: xs) = 32 :: c :: (num x ++ enL c xs) := by simp [enL]
theorem enL_snoc (c : UInt8) (x : Int) (xs : List Int) : enL c (xs ++ [x]) = enL c xs ++ 32 :: c :: num x := by simp [enL]
theorem pcE_minus : ∀ (vs' : List Int) (n : Nat) (us vs : List Int), (enL 45 vs').length < n → (∀ x ∈ vs', 0 ≤ x ∧ x ≤ 3650) → pcE n (enL 45 vs') us vs = some (us, vs ++ vs')
  | [], n, us, vs, hn, _ => by
    match n, hn with
    | n + 1, _ => unfold pcE; simp [enL]
  | x :: xs, n, us, vs, hn, hb => by
    match n, hn with
    | 0, hn => simp at hn
    | n + 1, hn =>
      have hx := hb x List.mem_cons_self
      have hq := nat_num (n := x) (by omega) (by omega) (r := enL 45 xs) (fun b h => by rw [enL_head 45 xs b h]; rfl)
      rw [enL_cons] at hn ⊢
      have hne := num_ne x
      have hlen : 0 < (num x).length := List.length_pos_iff.2 hne
      unfold pcE
      rw [if_neg (by simp), if_neg (by simp; omega)]
      simp only [List.drop_succ_cons, List.drop_zero]
      rw [hq.1, hq.2.1, hq.2.2]
      simp only [Bool.true_eq_false, if_false]
      rw [if_neg (by simp), if_pos (by simp)]
      rw [pcE_minus xs n us (vs ++ [x]) (by simp at hn; omega) (fun y hy => hb y (List.mem_cons_of_mem _ hy))]
      simp
theorem pcE_plus : ∀ (us' vs' : List Int) (n : Nat) (us : List Int), (enL 43 us' ++ enL 45 vs').length < n → (∀ x ∈ us', 0 ≤ x ∧ x ≤ 3650) → (∀ x ∈ vs', 0 ≤ x ∧ x ≤ 3650) → pcE n (enL 43 us' ++ enL 45 vs') us [] = some (us ++ us', vs')
  | [], vs', n, us, hn, _, hv => by
    have : enL 43 [] = [] := rfl
    rw [this, List.nil_append] at hn ⊢
    rw [pcE_minus vs' n us [] hn hv]
    simp
  | x :: xs, vs', n, us, hn, hu, hv => by
    match n, hn with
    | 0, hn => simp at hn
    | n + 1, hn =>
      have hx := hu x List.mem_cons_self
      have hq := nat_num (n := x) (by omega) (by omega) (r := enL 43 xs ++ enL 45 vs') (en_head xs vs')
      rw [enL_cons] at hn ⊢
      have hne := num_ne x
      have hlen : 0 < (num x).length := List.length_pos_iff.2 hne
      simp only [List.cons_append, List.append_assoc] at hn ⊢
      unfold pcE
      rw [if_neg (by simp), if_neg (by simp; omega)]
      simp only [List.drop_succ_cons, List.drop_zero]
      rw [hq.1, hq.2.1, hq.2.2]
      simp only [Bool.true_eq_false, if_false]
      rw [if_pos (by simp)]
      rw [pcE_plus xs vs' n (us ++ [x]) (by simp at hn ⊢; omega) (fun y hy => hu y (List.mem_cons_of_mem _ hy)) hv]
      simp
theorem pcC_text {f t d : Int} {us vs : List Int} (h : calB f t d us vs = true) : pcC (calL f t d us vs) = some (f, t, d, us, vs) := by
  obtain ⟨hf, ht, hd, _, _, hu, hv⟩ := cal_bd h
  have q1 := nat_num (n := f) (by omega) (by omega) (r := 45 :: (num t ++ 32 :: (wkL d ++ (enL 43 us ++ enL 45 vs)))) (fun b hb => by simp at hb; subst hb; rfl)
  have q2 := nat_num (n := t) (by omega) (by omega) (r := 32 :: (wkL d ++ (enL 43 us ++ enL 45 vs))) (fun b hb => by simp at hb; subst hb; rfl)
  have hw := wkL_ok hd.1 hd.2
  have hl := wkL_len d
  unfold pcC calL
  rw [q1.1, q1.2.1, q1.2.2]
  simp only [List.head?_cons, List.drop_succ_cons, List.drop_zero, true_and, if_true]
  rw [q2.1, q2.2.1, q2.2.2]
  simp only [List.head?_cons, List.drop_succ_cons, List.drop_zero, true_and, and_true]
  rw [if_pos (by simp [hl])]
  rw [wkK_app (by omega), hw.2.1, wkV_app (by omega), hw.1]
  simp only [if_true]
  have hdrop : (wkL d ++ (enL 43 us ++ enL 45 vs)).drop 7 = enL 43 us ++ enL 45 vs := by
    rw [← hl, List.drop_left]
  rw [hdrop, pcE_plus us vs _ [] (by simp [hl]; omega) hu hv]
  simp only [List.nil_append]
  rw [if_pos h]
theorem pcE_sound : ∀ (n : Nat) (l : List UInt8) (us vs us' vs' : List Int), pcE n l us vs = some (us', vs') → enL 43 us ++ enL 45 vs ++ l = enL 43 us' ++ enL 45 vs'
  | 0, _, _, _, _, _, h => by unfold pcE at h; cases h
  | n + 1, l, us, vs, us', vs', h => by
    unfold pcE at h
    split at h
    · rename_i hl
      simp at h
      rw [hl, h.1, h.2, List.append_nil]
    · split at h
      · cases h
      · rename_i h3
        simp only [not_or, Decidable.not_not] at h3
        split at h
        · cases h
        · rename_i hB
          have hB' : natB (l.drop 2) = true := by cases hq : natB (l.drop 2) <;> simp_all
          have hs := (nat_split hB').1
          have hform : ∀ c, l[1]? = some c → l = 32 :: c :: l.drop 2 := fun c hc => by
            match l, h3 with
            | a :: b :: r, h3 =>
              simp at hc h3
              rw [h3.2, hc]; rfl
            | [a], h3 => simp at hc
            | [], h3 => simp at hc
          split at h
          · rename_i hc
            have ih := pcE_sound n _ _ _ _ _ h
            rw [← ih, enL_snoc, hc.2]
            have hl := hform 43 hc.1
            generalize l.drop 2 = r at *
            rw [hl]
            conv => lhs; rw [hs]
            simp [enL]
          · split at h
            · rename_i hc
              have ih := pcE_sound n _ _ _ _ _ h
              rw [← ih, enL_snoc]
              have hl := hform 45 hc
              generalize l.drop 2 = r at *
              rw [hl]
              conv => lhs; rw [hs]
              simp
            · cases h
theorem head_cons {l : List UInt8} {c : UInt8} (h : l.head? = some c) : l = c :: l.drop 1 := by
  cases l with
  | nil => simp at h
  | cons a b => simp at h; rw [h]; rfl
theorem pcC_sound {l : List UInt8} {f t d : Int} {us vs : List Int} (h : pcC l = some (f, t, d, us, vs)) : calB f t d us vs = true ∧ calL f t d us vs = l := by
  unfold pcC at h
  split at h
  · rename_i h1
    split at h
    · rename_i h2
      split at h
      · rename_i h3
        split at h
        · cases h
        · rename_i us' vs' he
          split at h
          · rename_i hc
            simp only [Option.some.injEq, Prod.mk.injEq] at h
            obtain ⟨rfl, rfl, rfl, rfl, rfl⟩ := h
            refine ⟨hc, ?_⟩
            have s1 := (nat_split h1.1).1
            have s2 := (nat_split h2.1).1
            have e1 := head_cons h1.2
            have e2 := head_cons h2.2.2
            have e3 := wk_back h3
            have e4 := pcE_sound _ _ _ _ _ _ he
            rw [List.drop_drop] at e3
            have e5 : enL 43 us' ++ enL 45 vs' = (natR ((natR l).drop 1)).drop (1 + 7) := by
              rw [← e4]; simp [enL]
            unfold calL
            rw [e5, show 1 + 7 = 7 + 1 by rfl] at *
            conv => rhs; rw [s1, e1, s2, e2, ← e3]
          · cases h
      · cases h
    · cases h
  · cases h
theorem spw_words : ∀ (ws : List (List UInt8)) (a : List UInt8), 32 ∉ a → (∀ w ∈ ws, 32 ∉ w) → spw 32 (a ++ ws.flatMap (fun w => 32 :: w)) = a :: ws
  | [], a, ha, _ => by rw [List.flatMap_nil, List.append_nil]; exact spw_one ha
  | w :: ws, a, ha, h => by
    rw [List.flatMap_cons, List.cons_append, spw_sep ha, spw_words ws w (h w List.mem_cons_self) (fun y hy => h y (List.mem_cons_of_mem _ hy))]
theorem psE_words (us' vs' : List Int) (hu : ∀ x ∈ us', 0 ≤ x ∧ x ≤ 3650) (hv : ∀ x ∈ vs', 0 ≤ x ∧ x ≤ 3650) : ∀ us vs : List Int, psE (us'.map (fun x => 43 :: num x) ++ vs'.map (fun x => 45 :: num x)) us vs = some (us ++ us', vs ++ vs') := by
  induction us' with
  | nil =>
    induction vs' with
    | nil => intro us vs; simp [psE]
    | cons x xs ih =>
      intro us vs
      have hx := hv x List.mem_cons_self
      have hr := rd_yes (rdO_num (n := x) (by omega) (by omega))
      have ih' := ih (fun y hy => hv y (List.mem_cons_of_mem _ hy)) us (vs ++ [x])
      simp only [List.map_nil, List.nil_append, List.map_cons] at ih' ⊢
      unfold psE
      simp only [List.drop_succ_cons, List.drop_zero]
      rw [hr.1, hr.2, ih']
      simp
  | cons x xs ih =>
    intro us vs
    have hx := hu x List.mem_cons_self
    have hr := rd_yes (rdO_num (n := x) (by omega) (by omega))
    have ih' := ih (fun y hy => hu y (List.mem_cons_of_mem _ hy)) (us ++ [x]) vs
    simp only [List.map_cons, List.cons_append]
    unfold psE
    simp only [List.drop_succ_cons, List.drop_zero]
    rw [hr.1, hr.2, ih']
    simp
theorem num_no {n : Int} (h : 0 ≤ n) {c : UInt8} (hc : isDg c = false) : c ∉ num n := by rw [num_nn h]; exact dec_no hc
theorem wkL_no (d : Int) : (32 : UInt8) ∉ wkL d := by
  intro h
  unfold wkL at h
  obtain ⟨k, hk, e⟩ := List.mem_map.1 h
  rw [List.mem_range] at hk
  have hall : ∀ j : Fin 7, wkC j.1 ≠ 32 := by decide
  unfold dyC at e
  split at e
  · exact hall ⟨k, hk⟩ e
  · cases e
theorem calL_size {f t d : Int} {us vs : List Int} (h : calB f t d us vs = true) : (calL f t d us vs).length ≤ 150 := by
  obtain ⟨hf, ht, hd, n1, n2, hu, hv⟩ := cal_bd h
  have hn : ∀ x : Int, 0 ≤ x ∧ x ≤ 3650 → (num x).length ≤ 4 := fun x hx => by rw [num_nn hx.1]; exact dec_length _ 4 (by omega) (by omega)
  have he : ∀ (c : UInt8) (xs : List Int), (∀ x ∈ xs, 0 ≤ x ∧ x ≤ 3650) → (enL c xs).length ≤ 6 * xs.length := by
    intro c xs
    induction xs with
    | nil => intro _; simp [enL]
    | cons x xs ih =>
      intro hx
      have h1 := ih (fun y hy => hx y (List.mem_cons_of_mem _ hy))
      have h2 := hn x (hx x List.mem_cons_self)
      rw [enL_cons]
      simp
      omega
  have h1 := he 43 us hu
  have h2 := he 45 vs hv
  have h3 := hn f hf
  have h4 := hn t ht
  have h5 := wkL_len d
  unfold calL
  simp
  omega
theorem psC_text {f t d : Int} {us vs : List Int} (h : calB f t d us vs = true) : psC (calL f t d us vs) = some (f, t, d, us, vs) := by
  obtain ⟨hf, ht, hd, n1, n2, hu, hv⟩ := cal_bd h
  have hsz := calL_size h
  have hE : enL 43 us ++ enL 45 vs = (us.map (fun x => 43 :: num x) ++ vs.map (fun x => 45 :: num x)).flatMap (fun w => 32 :: w) := by
    rw [List.flatMap_append, List.flatMap_map, List.flatMap_map]; rfl
  have hsp : spw 32 (calL f t d us vs) = (num f ++ 45 :: num t) :: wkL d :: (us.map (fun x => 43 :: num x) ++ vs.map (fun x => 45 :: num x)) := by
    have e : calL f t d us vs = (num f ++ 45 :: num t) ++ 32 :: (wkL d ++ (us.map (fun x => 43 :: num x) ++ vs.map (fun x => 45 :: num x)).flatMap (fun w => 32 :: w)) := by
      unfold calL; rw [hE]; simp
    rw [e, spw_sep, spw_words _ _ (wkL_no d)]
    · intro w hw
      rw [List.mem_append, List.mem_map, List.mem_map] at hw
      rcases hw with ⟨x, hx, rfl⟩ | ⟨x, hx, rfl⟩
      · intro hq
        rcases List.mem_cons.1 hq with hq | hq
        · cases hq
        · exact num_no (hu x hx).1 rfl hq
      · intro hq
        rcases List.mem_cons.1 hq with hq | hq
        · cases hq
        · exact num_no (hv x hx).1 rfl hq
    · intro hq
      rw [List.mem_append, List.mem_cons] at hq
      rcases hq with hq | hq | hq
      · exact num_no hf.1 rfl hq
      · cases hq
      · exact num_no ht.1 rfl hq
  have hbb : spw 45 (num f ++ 45 :: num t) = [num f, num t] := by
    rw [spw_sep (num_no hf.1 rfl), spw_one (num_no ht.1 rfl)]
  have r1 := rd_yes (rdO_num (n := f) (by omega) (by omega))
  have r2 := rd_yes (rdO_num (n := t) (by omega) (by omega))
  have hw := wkL_ok hd.1 hd.2
  unfold psC
  rw [hsp]
  simp only [List.getD_cons_zero, List.getD_cons_succ, List.drop_succ_cons, List.drop_zero, List.length_cons]
  rw [if_pos ⟨hsz, by omega, wkL_len d⟩, hbb]
  simp only [List.getD_cons_zero, List.getD_cons_succ, List.length_cons, List.length_nil]
  rw [if_pos trivial, r1.1, r1.2, r2.1, r2.2, psE_words us vs hu hv [] []]
  simp only [List.nil_append, and_self, if_true]
  rw [hw.2.2, if_pos ⟨h, rfl⟩]
theorem psC_sound {l : List UInt8} {f t d : Int} {us vs : List Int} (h : psC l = some (f, t, d, us, vs)) : calB f t d us vs = true ∧ calL f t d us vs = l := by
  unfold psC at h
  split at h
  · split at h
    · split at h
      · split at h
        · cases h
        · split at h
          · rename_i hc
            simp only [Option.some.injEq, Prod.mk.injEq] at h
            obtain ⟨rfl, rfl, rfl, rfl, rfl⟩ := h
            exact hc
          · cases h
      · cases h
    · cases h
  · cases h
/-- Both parses agree. -/
theorem pc_eq (l : List UInt8) : pcC l = psC l := by
  cases h : psC l with
  | some c =>
    obtain ⟨f, t, d, us, vs⟩ := c
    obtain ⟨h1, h2⟩ := psC_sound h
    rw [← h2]
    exact pcC_text h1
  | none =>
    cases h2 : pcC l with
    | none => rfl
    | some c =>
      obtain ⟨f, t, d, us, vs⟩ := c
      obtain ⟨h3, h4⟩ := pcC_sound h2
      rw [← h4, psC_text h3] at h
      cases h
end Go.Proofs.Ytpipegdjflniaaa
