/- Appending to a slice of the call's own while another block stays. -/
import Derived.Test.YtambgommeannnaaApp
import Derived.Maps.AppendAt
namespace Go.Proofs.Ytambgommeannnaa
open Go.ChangeShapes Go.WideShapes Go.ChangeAt Go.RowKit Go.PlainAid
set_option linter.unusedVariables false

/-- A slice of the call's own that does not lie in block X. -/
def OwnX {α : Type} (e : TypeId) (m : Nat) (enc : α → List Value) (w : World) (B X : Nat) (v : Value) (xs : List α) : Prop := OwnE e m enc w B v xs ∧ v.ownBlock ≠ some X
section
variable {α : Type} {e : TypeId} {m : Nat} {enc : α → List Value} {w w' : World} {B X : Nat} {v : Value} {xs : List α}
/-- Whatever is newer than the slice lies apart. -/
theorem OwnE.apart (h : OwnE e m enc w B v xs) (hX : w.heap.size ≤ X) : OwnX e m enc w B X v xs := ⟨h, fun g => by have := (World.ownsRow.lt h) X g; omega⟩
theorem OwnX.call (h : OwnX e m enc w B X v xs) (hb : Below w.heap.size w w') : OwnX e m enc w' B X v xs := ⟨h.1.call hb, h.2⟩
end
/-- append(v, y) of one element; block X stays. -/
theorem wp_appX {α : Type} {e : TypeId} {m : Nat} {enc : α → List Value} {P : Program} {ops : Array Oper} {rest : List Oper} {o : Oper} {a : Act} {Q : Exit → Act → World → Prop} (hgd : o.guard = none) (s x : Operand) (t : TypeId)
    (ho : o.op = .call { callee := .builtin .append, args := #[s, x], argTypes := #[t, t] }) (bytes : Nat) {z : Value} {i : TypeInfo} (ht : P.underlying t = some (.slice e)) (hi : P.info? e = some i) (hz : i.zero = some z) (hsize : i.size = m) (hby : i.bytes = bytes) (hzs : z.cells.size = m) (hsz : 0 < m)
    (hm : ∀ y, (enc y).length = m) (h1 : ∀ y, ∀ u ∈ enc y, u.oneCell' = true) (hb16 : bytes ≤ 1024)
    (B X : Nat) (v : Value) (xs : List α) (y : α) (cs : Array Value) (w : World) (hcs : cs.toList = enc y) (hs : a.eval s = v) (n : Nat) (hx : a.eval x = .slice (some ⟨n, 0, none⟩) 1 1) (hnw : n = w.heap.size) (hown : OwnX e m enc w B X v xs) (hl : xs.length ≤ 16777216) (hB : B ≤ w.heap.size) (hX : X < w.heap.size)
    (h : ∀ v' w', OwnX e m enc w' B X v' (xs ++ [y]) → Below B w w' → Same w w' X → w.heap.size ≤ w'.heap.size → wpList P ops Q rest (a.put o.dst v') w') : wpList P ops Q (o :: rest) a (w.alloc (.cells cs e)) := by
  subst hnw
  obtain ⟨hown, hne⟩ := hown
  refine wpList_append_own_at _ hgd s x t ho B e i z m bytes ht hi hz hsize hby hzs hsz v xs.length (xs.flatMap enc) hs (World.ownsRow.alloc hown _) ⟨w.heap.size, 0, none⟩ 1 1 (enc y) hx (by rw [hm]; omega) (fun j u hj => ?_) (h1 y) (by unfold maxLen; omega) ?_ (by simp; omega) (fun v' w' ho' hg _ hat => ?_)
  · rw [show (⟨w.heap.size, 0, none⟩ : Addr).add j = ⟨w.heap.size, j, none⟩ by unfold Addr.add; split <;> simp_all, World.cell?_alloc_mark, ← Array.getElem?_toList, hcs]
    exact hj
  · have : (xs.length + 1) * bytes ≤ (16777216 + 1) * 1024 := Nat.mul_le_mul (by omega) hb16
    omega
  · have hz' := hg.size
    simp at hz'
    refine h v' w' ⟨?_, ?_⟩ (((Below.refl B w).alloc hB _).grown hg (by simp; omega) (fun k hk => ((World.ownsRow.lt hown) k hk).1)) ?_ (by omega)
    · show w'.ownsRow B e m v' (xs ++ [y]).length ((xs ++ [y]).flatMap enc)
      rw [List.length_append, List.flatMap_append, List.flatMap_cons, List.flatMap_nil, List.append_nil]
      exact ho'
    · rcases hat with g | g
      · rw [g]; exact hne
      · rw [g]; simp; omega
    · have h1 : Same w (w.alloc (.cells cs e)) X := Same.of_below ((Below.refl _ _).alloc (Nat.le_refl _) _) hX
      have hb := hg.block X (by simp; omega) (fun e => hne e.symm)
      exact h1.trans (fun o => ⟨World.cell?_of_block (a := ⟨X, o, none⟩) hb, World.frozen?_of_block (a := ⟨X, o, none⟩) hb⟩)
end Go.Proofs.Ytambgommeannnaa
