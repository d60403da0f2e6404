/- Slices that a call makes itself and appends to. -/
import Derived.Test.YtemhcobjhpifpaaZon
import Derived.Laws.AppendOwn
import Derived.Laws.OwnMore
namespace Go.Proofs.Ytemhcobjhpifpaa
open Go.ChangeShapes Go.WideShapes Go.ChangeAt Go.RowKit Go.PlainAid
set_option linter.unusedVariables false

/-- A slice of the call's own, from block B on, that holds xs. -/
def OwnE {α : Type} (e : TypeId) (m : Nat) (enc : α → List Value) (w : World) (B : Nat) (v : Value) (xs : List α) : Prop := w.ownsRow B e m v xs.length (xs.flatMap enc)
section
variable {α : Type} {e : TypeId} {m : Nat} {enc : α → List Value} {w w' : World} {B : Nat} {v : Value} {xs : List α}
theorem OwnE.nil : OwnE e m enc w B (.slice none 0 0) ([] : List α) := World.ownsRow_nil w B e m
theorem OwnE.empty (hb : B ≤ w.heap.size) : OwnE e m enc (w.alloc (.cells #[] e)) B (.slice (some ⟨w.heap.size, 0, none⟩) 0 0) ([] : List α) := World.ownsRow_made w #[] 0 hb (by unfold maxLen; omega) (by simp)
theorem OwnE.alloc (h : OwnE e m enc w B v xs) (o : Obj) : OwnE e m enc (w.alloc o) B v xs := World.ownsRow.alloc h o
theorem OwnE.drewN (h : OwnE e m enc w B v xs) (n : Nat) : OwnE e m enc (w.drewN n) B v xs := h
theorem OwnE.call (h : OwnE e m enc w B v xs) (hb : Below w.heap.size w w') : OwnE e m enc w' B v xs := by
  obtain ⟨h1, h2⟩ := h
  refine ⟨h1, ?_⟩
  rcases h2 with h2 | ⟨g, cap, cur, hv, hg, hh, r⟩
  · exact Or.inl h2
  · have hlt : g < w.heap.size := (Array.getElem?_eq_some_iff.1 hh).1
    exact Or.inr ⟨g, cap, cur, hv, hg, by rw [hb.block g hlt]; exact hh, r⟩
theorem flat_get (hm : ∀ y, (enc y).length = m) [Inhabited α] : ∀ (xs : List α) (j i : Nat), j < xs.length → i < m → (xs.flatMap enc)[j * m + i]? = (enc (xs.getD j default))[i]? := by
  intro xs
  induction xs with
  | nil => intro j i hj _; simp at hj
  | cons x xs ih =>
    intro j i hj hi
    rw [List.flatMap_cons]
    cases j with
    | zero =>
      rw [Nat.zero_mul, Nat.zero_add, List.getElem?_append_left (by rw [hm]; exact hi)]
      rfl
    | succ j =>
      rw [List.getElem?_append_right (by rw [hm, Nat.succ_mul]; omega), hm, show (j + 1) * m + i - m = j * m + i by rw [Nat.succ_mul]; omega, ih j i (by simpa using hj) hi]
      rfl
/-- It reads as a slice in new memory. -/
theorem OwnE.reads [Inhabited α] {E : Rd α} {st : Nat → Nat} (h : OwnE e m enc w B v xs) (hm : ∀ y, (enc y).length = m) (hst : ∀ j, st j = j * m) (hE : ∀ (w : World) (Z : Zone) (b o : Nat) (y : α), (∀ i, i < m → w.cell? ⟨b, o + i, none⟩ = (enc y)[i]?) → E w Z b o y) :
    ∃ A c, v = .slice A xs.length c ∧ xs.length ≤ c ∧ c ≤ 9223372036854775807 ∧ Sl E st w (Zone.new B w.heap.size) A xs := by
  have h0 := h
  obtain ⟨h1, h2⟩ := h
  rcases h2 with ⟨hv, hn⟩ | ⟨g, cap, cur, hv, hg, hh, hle, hc, r1, r2⟩
  · exact ⟨none, 0, by rw [hn]; exact hv, by omega, by omega, fun h => by omega⟩
  · subst hv
    unfold maxLen at hc
    have hlt : g < w.heap.size := (Array.getElem?_eq_some_iff.1 hh).1
    refine ⟨some ⟨g, 0, none⟩, cap, rfl, hle, by omega, fun hn => ⟨g, 0, rfl, ⟨hg, hlt⟩, fun _ j => World.ownsRow.frozenAt h0 j, fun j hj => hE _ _ _ _ _ fun i hi => ?_⟩⟩
    rw [hst, Nat.zero_add, World.ownsRow.cellAt h0 (j * m + i) (by
      have : (j + 1) * m ≤ xs.length * m := Nat.mul_le_mul_right m hj
      rw [Nat.succ_mul] at this
      omega), flat_get hm xs j i hj hi]
end

/-- append(v, y) of one element. -/
theorem wp_app {α : Type} {e : TypeId} {m : Nat} {enc : α → List Value} {P : Program} {ops : Array Oper} {rest : List Oper} {o : Oper} {a : Act} {Q : Exit → Act → World → Prop} (hgd : o.guard = none) (s x : Operand) (t : TypeId)
    (ho : o.op = .call { callee := .builtin .append, args := #[s, x], argTypes := #[t, t] }) (bytes : Nat) {z : Value} {i : TypeInfo} (ht : P.underlying t = some (.slice e)) (hi : P.info? e = some i) (hz : i.zero = some z) (hsize : i.size = m) (hby : i.bytes = bytes) (hzs : z.cells.size = m) (hsz : 0 < m)
    (hm : ∀ y, (enc y).length = m) (h1 : ∀ y, ∀ u ∈ enc y, u.oneCell' = true) (hb16 : bytes ≤ 1024)
    (B : Nat) (v : Value) (xs : List α) (y : α) (cs : Array Value) (w : World) (hcs : cs.toList = enc y) (hs : a.eval s = v) (n : Nat) (hx : a.eval x = .slice (some ⟨n, 0, none⟩) 1 1) (hnw : n = w.heap.size) (hown : OwnE e m enc w B v xs) (hl : xs.length ≤ 16777216) (hB : B ≤ w.heap.size)
    (h : ∀ v' w', OwnE e m enc w' B v' (xs ++ [y]) → Below B w w' → wpList P ops Q rest (a.put o.dst v') w') : wpList P ops Q (o :: rest) a (w.alloc (.cells cs e)) := by
  subst hnw
  refine wpList_append_own _ hgd s x t ho B e i z m bytes ht hi hz hsize hby hzs hsz v xs.length (xs.flatMap enc) hs (hown.alloc _) ⟨w.heap.size, 0, none⟩ 1 1 (enc y) hx (by rw [hm]; omega) (fun j u hj => ?_) (h1 y) (by unfold maxLen; omega) ?_ (by simp; omega) (fun v' w' ho' hg _ => ?_)
  · rw [show (⟨w.heap.size, 0, none⟩ : Addr).add j = ⟨w.heap.size, j, none⟩ by unfold Addr.add; split <;> simp_all, World.cell?_alloc_mark, ← Array.getElem?_toList, hcs]
    exact hj
  · have : (xs.length + 1) * bytes ≤ (16777216 + 1) * 1024 := Nat.mul_le_mul (by omega) hb16
    omega
  · refine h v' w' ?_ ?_
    · show w'.ownsRow B e m v' (xs ++ [y]).length ((xs ++ [y]).flatMap enc)
      rw [List.length_append, List.flatMap_append, List.flatMap_cons, List.flatMap_nil, List.append_nil]
      exact ho'
    · exact ((Below.refl B w).alloc hB _).grown hg (by simp; omega) (fun k hk => ((World.ownsRow.lt hown) k hk).1)

/-! ### Integers -/
def encI (y : Int) : List Value := [.int .i64 y]
abbrev OwnI (w : World) (B : Nat) (v : Value) (xs : List Int) : Prop := OwnE 3 1 encI w B v xs
theorem OwnE.ints {w : World} {B : Nat} {v : Value} {xs : List Int} (h : OwnI w B v xs) : ∃ A c, v = .slice A xs.length c ∧ xs.length ≤ c ∧ c ≤ 9223372036854775807 ∧ IntsIn w (Zone.new B w.heap.size) A xs :=
  h.reads (fun _ => rfl) (fun j => by omega) (fun w Z b o y hc => hc 0 (by omega))
theorem wp_appI {ops : Array Oper} {rest : List Oper} {o : Oper} {a : Act} {Q : Exit → Act → World → Prop} (hgd : o.guard = none) (s x : Operand)
    (ho : o.op = .call { callee := .builtin .append, args := #[s, x], argTypes := #[29, 29] })
    (B : Nat) (v : Value) (xs : List Int) (y : Int) (w : World) (hown : OwnI w B v xs) (hs : a.eval s = v) (n : Nat) (hx : a.eval x = .slice (some ⟨n, 0, none⟩) 1 1) (hnw : n = w.heap.size) (hl : xs.length ≤ 16777216) (hB : B ≤ w.heap.size)
    (h : ∀ v' w', OwnI w' B v' (xs ++ [y]) → Below B w w' → wpList Try.prog ops Q rest (a.put o.dst v') w') : wpList Try.prog ops Q (o :: rest) a (w.alloc (.cells #[.int .i64 y] 3)) := by
  obtain ⟨i0, hi, hz0, hz1, hz2⟩ := info_parts Try.infoI
  exact wp_app hgd s x 29 ho 8 Try.underlying29 hi hz0 hz1 hz2 rfl (by omega) (fun _ => rfl) (fun y u hu => by simp [encI] at hu; subst hu; rfl) (by omega) B v xs y _ w rfl hs n hx hnw hown hl hB h
end Go.Proofs.Ytemhcobjhpifpaa
