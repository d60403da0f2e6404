/- Names: what the two checkers of a name say; names found in lists. -/
import Derived.Test.YtemhcobjhpifpaaNetB
import Derived.Test.YtemhcobjhpifpaaHas
namespace Go.Proofs.Ytemhcobjhpifpaa
open Go.ChangeShapes Go.WideShapes Go.ChangeAt Go.RowKit Go.PlainAid
set_option linter.unusedVariables false

/-- A byte that may stand at place k of a name. -/
def okByte (k c : Nat) : Prop := (97 ≤ c ∧ c ≤ 122) ∨ (k ≠ 0 ∧ 48 ≤ c ∧ c ≤ 57)
instance (k c : Nat) : Decidable (okByte k c) := by unfold okByte; exact inferInstance
def IsName (s : ByteArray) : Prop := 1 ≤ s.size ∧ s.size ≤ 8 ∧ ∀ k (h : k < s.size), okByte k s[k].toNat
instance (s : ByteArray) : Decidable (IsName s) := by unfold IsName; exact inferInstance
/-- Is it a name? -/
def nameB (s : ByteArray) : Bool := decide (IsName s)
theorem nameB_no {s : ByteArray} (h : ¬ IsName s) : nameB s = false := decide_eq_false h
theorem nameB_yes {s : ByteArray} (h : IsName s) : nameB s = true := decide_eq_true h

set_option maxHeartbeats 1000000 in
theorem isName_any (s : ByteArray) (w : World) :
    Calls Try.prog 61 #[.string s] w fun e w' => e = .returned (.bool (nameB s)) ∧ w = w' := by
  by_cases h1 : s.size < 1
  · have H := Lib.hid (nameB_no (s := s) (fun h => by have := h.1; omega))
    go_enter Try.func61, Try.ntmps61
    go_wp2
    go_ret
    exact ⟨retB H.out.symm, rfl⟩
  · by_cases h8 : 8 < s.size
    · have H := Lib.hid (nameB_no (s := s) (fun h => by have := h.2.1; omega))
      go_enter Try.func61, Try.ntmps61
      go_wp2
      go_ret
      exact ⟨retB H.out.symm, rfl⟩
    · go_enter Try.func61, Try.ntmps61
      go_wp2
      go_loopw [15] (fun i wr => ∃ k : Nat, k ≤ s.size ∧ i = .int .i64 k ∧ (∀ j (h : j < s.size), j < k → okByte j s[j].toNat) ∧ w = wr) (fun i _ => s.size - (intOf i).toNat)
      case atStart => exact ⟨0, Nat.zero_le _, rfl, fun j _ hj => by omega, rfl⟩
      case round =>
        obtain ⟨k, hk, rfl, ha, rfl⟩ := hrel
        have HA := Lib.hid ha
        clear ha
        by_cases hlt : k < s.size
        · by_cases hg : okByte k s[k].toNat
          · have HG : Hid (∀ j (h : j < s.size), j < k + 1 → okByte j s[j].toNat) := Lib.hid (fun j h hj => by
              by_cases e : j = k
              · subst e; exact hg
              · exact HA.out j h (by omega))
            unfold okByte at hg
            go_wp2
            all_goals first
              | (exfalso; simp at *; omega)
              | (go_roundw
                 case rel => exact ⟨k + 1, by omega, by go_num, HG.out, trivial⟩
                 case measure => simp [intOf]; omega)
          · have H := Lib.hid (nameB_no (s := s) (fun h => hg (h.2.2 k hlt)))
            unfold okByte at hg
            go_wp2
            all_goals first
              | (exfalso; simp at *; omega)
              | (go_ret
                 exact ⟨retB H.out.symm, rfl⟩)
              | (exfalso; subst_vars; omega)
        · obtain rfl : k = s.size := by omega
          have H := Lib.hid (nameB_yes (s := s) ⟨by omega, by omega, fun j h => HA.out j h h⟩)
          go_wp2
          go_ret
          exact ⟨retB H.out.symm, rfl⟩

set_option maxHeartbeats 1000000 in
theorem l2Name_any (s : ByteArray) (w : World) :
    Calls Try.prog 57 #[.string s] w fun e w' => e = .returned (.bool (nameB s)) ∧ w = w' := by
  by_cases h1 : s.size < 1 ∨ 8 < s.size
  · have H := Lib.hid (nameB_no (s := s) (fun h => by have := h.1; have := h.2.1; omega))
    have hi : inB s.size 1 8 = false := inB_no (by omega)
    go_enter Try.func57, Try.ntmps57
    go_wp2_with (go_at_call 20; refine (l1In_any _ _ _ _).mono ?_; rintro e w1 ⟨rfl, rfl⟩)
    go_ret
    exact ⟨retB H.out.symm, rfl⟩
  · have hi : inB s.size 1 8 = true := inB_yes (by omega) (by omega)
    have hp : 0 < s.size := by omega
    by_cases hl : 97 ≤ s[0].toNat ∧ s[0].toNat ≤ 122
    · obtain ⟨hl1, hl2⟩ := hl
      have g1 : (97 : Int) ≤ s[0].toNat := by omega
      have g2 : (s[0].toNat : Int) ≤ 122 := by omega
      have HL1 := Lib.hid hl1
      have HL2 := Lib.hid hl2
      clear hl1 hl2
      go_enter Try.func57, Try.ntmps57
      go_wp2_with (go_at_call 20; refine (l1In_any _ _ _ _).mono ?_; rintro e w1 ⟨rfl, rfl⟩)
      clear g1 g2
      go_loopw [3] (fun i wr => ∃ k : Nat, k ≤ s.size ∧ i = .int .i64 k ∧ (∀ j (h : j < s.size), j < k → okByte j s[j].toNat) ∧ w = wr) (fun i _ => s.size - (intOf i).toNat)
      case atStart => exact ⟨0, Nat.zero_le _, rfl, fun j _ hj => by omega, rfl⟩
      case round =>
        obtain ⟨k, hk, rfl, ha, rfl⟩ := hrel
        have HA := Lib.hid ha
        clear ha
        by_cases hlt : k < s.size
        · by_cases hg : okByte k s[k].toNat
          · have HG : Hid (∀ j (h : j < s.size), j < k + 1 → okByte j s[j].toNat) := Lib.hid (fun j h hj => by
              by_cases e : j = k
              · subst e; exact hg
              · exact HA.out j h (by omega))
            unfold okByte at hg
            go_wp2
            all_goals first
              | (exfalso; simp at *; omega)
              | (go_roundw
                 case rel => exact ⟨k + 1, by omega, by go_num, HG.out, trivial⟩
                 case measure => simp [intOf]; omega)
              | (exfalso; subst_vars; omega)
          · have H := Lib.hid (nameB_no (s := s) (fun h => hg (h.2.2 k hlt)))
            have hg0 : ¬ (97 ≤ s[k].toNat ∧ s[k].toNat ≤ 122) ∧ ¬ (48 ≤ s[k].toNat ∧ s[k].toNat ≤ 57) := by
              unfold okByte at hg
              have h1 := HL1.out
              have h2 := HL2.out
              by_cases e : k = 0
              · subst e; omega
              · omega
            clear hg
            obtain ⟨hg1, hg2⟩ := hg0
            go_wp2
            all_goals first
              | (exfalso; simp at *; omega)
              | (go_ret
                 exact ⟨retB H.out.symm, rfl⟩)
              | (exfalso; subst_vars; omega)
        · obtain rfl : k = s.size := by omega
          have H := Lib.hid (nameB_yes (s := s) ⟨by omega, by omega, fun j h => HA.out j h h⟩)
          go_wp2
          go_ret
          exact ⟨retB H.out.symm, rfl⟩
    · have H := Lib.hid (nameB_no (s := s) (fun h => by
        have := h.2.2 0 hp
        unfold okByte at this
        omega))
      go_enter Try.func57, Try.ntmps57
      go_wp2_with (go_at_call 20; refine (l1In_any _ _ _ _).mono ?_; rintro e w1 ⟨rfl, rfl⟩)
      all_goals first
        | (go_ret
           exact ⟨retB H.out.symm, rfl⟩)
        | (exfalso; omega)

/-! ### A string's place in a list -/
def eqAtS (xs : List ByteArray) (x : ByteArray) (k : Nat) : Bool := (nthS xs k).toList == x.toList
theorem eqAtS_comm (xs : List ByteArray) (x : ByteArray) (k : Nat) : (x.toList == (nthS xs k).toList) = eqAtS xs x k := by unfold eqAtS; exact Bool.beq_comm
def ixS (xs : List ByteArray) (x : ByteArray) : Int := ixN xs.length (eqAtS xs x)

set_option maxHeartbeats 400000 in
theorem slicesIndexS_any (A : Option Addr) (c : Nat) (xs : List ByteArray) (x : ByteArray) (w : World) (Z : Zone) (h : StrsIn w Z A xs) (hn : xs.length ≤ 1048576) :
    Calls Try.prog 62 #[.slice A xs.length c, .string x] w fun e w' => e = .returned (.int .i64 (ixS xs x)) ∧ w = w' := by
  have HX := Lib.hid h
  clear h
  go_enter Try.func62, Try.ntmps62
  go_wp2
  go_loop [8] (fun i => ∃ k : Nat, k ≤ xs.length ∧ i = .int .i64 k ∧ ∀ j, j < k → eqAtS xs x j = false) (fun i => xs.length - (intOf i).toNat)
  case atStart => exact ⟨0, Nat.zero_le _, rfl, fun j hj => by omega⟩
  case round =>
    obtain ⟨k, hk, rfl, ha⟩ := hrel
    have HA := Lib.hid ha
    clear ha
    by_cases hlt : k < xs.length
    · obtain ⟨b, o, rfl, hbl, hc0⟩ := HX.out.get hlt
      have hc : w.cell? ⟨b, o + k, none⟩ = some (.string (nthS xs k)) := hc0
      clear hc0
      have hi1 : (k : Int) < (xs.length : Int) := by omega
      cases he : eqAtS xs x k
      · have hE := eqAtS_comm xs x k
        rw [he] at hE
        go_wp2
        go_round
        case rel => exact ⟨k + 1, by omega, by go_num, fun j hj => by (by_cases e : j = k; (rw [e]; exact he); exact HA.out j (by omega))⟩
        case measure => simp [intOf]; omega
      · have HF := Lib.hid (show ixS xs x = k from ixN_hit hlt he HA.out)
        have hE := eqAtS_comm xs x k
        rw [he] at hE
        go_wp2
        go_ret
        exact ⟨retI HF.out.symm, rfl⟩
    · obtain rfl : k = xs.length := by omega
      have HF := Lib.hid (show ixS xs x = -1 from ixN_none HA.out)
      go_wp2
      go_ret
      exact ⟨retI HF.out.symm, rfl⟩

set_option maxHeartbeats 400000 in
theorem l2Find_any (A : Option Addr) (c : Nat) (xs : List ByteArray) (x : ByteArray) (w : World) (Z : Zone) (h : StrsIn w Z A xs) (hn : xs.length ≤ 1048576) :
    Calls Try.prog 58 #[.slice A xs.length c, .string x] w fun e w' => e = .returned (.int .i64 (ixS xs x)) ∧ Dr w w' := by
  have HX := Lib.hid h
  clear h
  go_enter Try.func58, Try.ntmps58
  go_wp2
  go_loopw [5] (fun i wr => ∃ k : Nat, k ≤ xs.length ∧ i = .int .i64 k ∧ (∀ j, j < k → eqAtS xs x j = false) ∧ w = wr) (fun i _ => xs.length - (intOf i).toNat)
  case atStart => exact ⟨0, Nat.zero_le _, rfl, fun j hj => by omega, rfl⟩
  case round =>
    obtain ⟨k, hk, rfl, ha, rfl⟩ := hrel
    have HA := Lib.hid ha
    clear ha
    by_cases hlt : k < xs.length
    · obtain ⟨b, o, rfl, hbl, hc0⟩ := HX.out.get hlt
      have hc : w.cell? ⟨b, o + k, none⟩ = some (.string (nthS xs k)) := hc0
      clear hc0
      have hi1 : (k : Int) < (xs.length : Int) := by omega
      cases he : eqAtS xs x k
      · have hE := he
        unfold eqAtS at hE
        go_wp2
        go_roundw
        case rel => exact ⟨k + 1, by omega, by go_num, fun j hj => by (by_cases e : j = k; (rw [e]; exact he); exact HA.out j (by omega)), trivial⟩
        case measure => simp [intOf]; omega
      · have HF := Lib.hid (show ixS xs x = k from ixN_hit hlt he HA.out)
        have hE := he
        unfold eqAtS at hE
        go_wp2
        go_ret
        exact ⟨retI HF.out.symm, Dr.refl _⟩
    · obtain rfl : k = xs.length := by omega
      have HF := Lib.hid (show ixS xs x = -1 from ixN_none HA.out)
      go_wp2
      go_ret
      exact ⟨retI HF.out.symm, Dr.refl _⟩

/-- The names of lines. -/
def namesOf (xs : List LineD) : List ByteArray := xs.map LineD.name
theorem nthS_names {xs : List LineD} {k : Nat} (h : k < xs.length) : nthS (namesOf xs) k = (nthL xs k).name := by
  unfold nthS nthL namesOf
  rw [List.getD_eq_getElem?_getD, List.getD_eq_getElem?_getD, List.getElem?_map, List.getElem?_eq_getElem h]
  rfl
theorem namesOf_length (xs : List LineD) : (namesOf xs).length = xs.length := by simp [namesOf]

/-- Are they different names? -/
def AreNames (xs : List ByteArray) : Prop := ∀ k, k < xs.length → nameB (nthS xs k) = true ∧ ixS xs (nthS xs k) = k
instance (xs : List ByteArray) : Decidable (AreNames xs) := by unfold AreNames; exact inferInstance
def namesB (xs : List ByteArray) : Bool := decide (AreNames xs)

set_option maxHeartbeats 400000 in
theorem areNames_any (A : Option Addr) (c : Nat) (xs : List ByteArray) (w : World) (Z : Zone) (h : StrsIn w Z A xs) (hn : xs.length ≤ 1048576) :
    Calls Try.prog 52 #[.slice A xs.length c] w fun e w' => e = .returned (.bool (namesB xs)) ∧ w = w' := by
  have HX := Lib.hid h
  clear h
  go_enter Try.func52, Try.ntmps52
  go_wp2
  go_loopw [7] (fun i wr => ∃ k : Nat, k ≤ xs.length ∧ i = .int .i64 k ∧ (∀ j, j < k → nameB (nthS xs j) = true ∧ ixS xs (nthS xs j) = j) ∧ w = wr) (fun i _ => xs.length - (intOf i).toNat)
  case atStart => exact ⟨0, Nat.zero_le _, rfl, fun j hj => by omega, rfl⟩
  case round =>
    obtain ⟨k, hk, rfl, ha, rfl⟩ := hrel
    have HA := Lib.hid ha
    clear ha
    by_cases hlt : k < xs.length
    · obtain ⟨b, o, rfl, hbl, hc0⟩ := HX.out.get hlt
      have hc : w.cell? ⟨b, o + k, none⟩ = some (.string (nthS xs k)) := hc0
      clear hc0
      have hi1 : (k : Int) < (xs.length : Int) := by omega
      cases he : nameB (nthS xs k)
      · have HF := Lib.hid (show namesB xs = false from decide_eq_false (fun h => by have := (h k hlt).1; rw [he] at this; cases this))
        go_wp2_with (first
          | (go_at_call 61; refine (isName_any _ _).mono ?_; rintro e w1 ⟨rfl, rfl⟩)
          | (go_at_call 62; refine (slicesIndexS_any _ _ _ _ _ _ HX.out hn).mono ?_; rintro e w1 ⟨rfl, rfl⟩))
        go_ret
        exact ⟨retB HF.out.symm, rfl⟩
      · by_cases hx : ixS xs (nthS xs k) = k
        · go_wp2_with (first
            | (go_at_call 61; refine (isName_any _ _).mono ?_; rintro e w1 ⟨rfl, rfl⟩)
            | (go_at_call 62; refine (slicesIndexS_any _ _ _ _ _ _ HX.out hn).mono ?_; rintro e w1 ⟨rfl, rfl⟩))
          go_roundw
          case rel => exact ⟨k + 1, by omega, by go_num, fun j hj => by (by_cases e : j = k; (rw [e]; exact ⟨he, hx⟩); exact HA.out j (by omega)), trivial⟩
          case measure => simp [intOf]; omega
        · have HF := Lib.hid (show namesB xs = false from decide_eq_false (fun h => hx (h k hlt).2))
          go_wp2_with (first
            | (go_at_call 61; refine (isName_any _ _).mono ?_; rintro e w1 ⟨rfl, rfl⟩)
            | (go_at_call 62; refine (slicesIndexS_any _ _ _ _ _ _ HX.out hn).mono ?_; rintro e w1 ⟨rfl, rfl⟩))
          go_ret
          exact ⟨retB HF.out.symm, rfl⟩
    · obtain rfl : k = xs.length := by omega
      have HF := Lib.hid (show namesB xs = true from decide_eq_true HA.out)
      go_wp2
      go_ret
      exact ⟨retB HF.out.symm, rfl⟩
end Go.Proofs.Ytemhcobjhpifpaa
