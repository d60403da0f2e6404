/- Appending to a slice of the call's own: every other block stays. -/
import Derived.Test.YtpipegdjflniaaaApp
import Derived.Maps.AppendAt
namespace Go.Proofs.Ytpipegdjflniaaa
open Go.ChangeShapes Go.WideShapes Go.ChangeAt Go.RowKit Go.PlainAid
set_option linter.unusedVariables false
set_option linter.unusedSimpArgs false

theorem Same.of_blk {w w' : World} {X : Nat} (h : w'.heap[X]? = w.heap[X]?) : Same w w' X := fun o => ⟨World.cell?_of_block (a := ⟨X, o, none⟩) h, World.frozen?_of_block (a := ⟨X, o, none⟩) h⟩
theorem OwnE.kept {α : Type} {e : TypeId} {m : Nat} {enc : α → List Value} {w w' : World} {B : Nat} {v : Value} {xs : List α} (h : OwnE e m enc w B v xs) (hs : ∀ X, v.ownBlock = some X → w'.heap[X]? = w.heap[X]?) : OwnE e m enc w' B v xs := by
  obtain ⟨h1, h2⟩ := h
  refine ⟨h1, ?_⟩
  rcases h2 with h2 | ⟨g, cap, cur, hv, hg, hh, r⟩
  · exact Or.inl h2
  · exact Or.inr ⟨g, cap, cur, hv, hg, by rw [hs g (by rw [hv]; rfl)]; exact hh, r⟩
/-- append(v, y) of one element; every block but the slice's own stays. -/
theorem wp_appG {α : Type} {e : TypeId} {m : Nat} {enc : α → List Value} {P : Program} {ops : Array Oper} {rest : List Oper} {o : Oper} {a : Act} {Q : Exit → Act → World → Prop} (hgd : o.guard = none) (s x : Operand) (t : TypeId)
    (ho : o.op = .call { callee := .builtin .append, args := #[s, x], argTypes := #[t, t] }) (bytes : Nat) {z : Value} {i : TypeInfo} (ht : P.underlying t = some (.slice e)) (hi : P.info? e = some i) (hz : i.zero = some z) (hsize : i.size = m) (hby : i.bytes = bytes) (hzs : z.cells.size = m) (hsz : 0 < m)
    (hm : ∀ y, (enc y).length = m) (h1 : ∀ y, ∀ u ∈ enc y, u.oneCell' = true) (hb16 : bytes ≤ 1024)
    (B : Nat) (v : Value) (xs : List α) (y : α) (cs : Array Value) (w : World) (hcs : cs.toList = enc y) (hs : a.eval s = v) (n : Nat) (hx : a.eval x = .slice (some ⟨n, 0, none⟩) 1 1) (hnw : n = w.heap.size) (hown : OwnE e m enc w B v xs) (hl : xs.length ≤ 16777216) (hB : B ≤ w.heap.size)
    (h : ∀ v' w', OwnE e m enc w' B v' (xs ++ [y]) → Below B w w' → (∀ X, X < w.heap.size → v.ownBlock ≠ some X → w'.heap[X]? = w.heap[X]?) → (v'.ownBlock = v.ownBlock ∨ v'.ownBlock = some (w.heap.size + 1)) → w.heap.size ≤ w'.heap.size → wpList P ops Q rest (a.put o.dst v') w') : wpList P ops Q (o :: rest) a (w.alloc (.cells cs e)) := by
  subst hnw
  refine wpList_append_own_at _ hgd s x t ho B e i z m bytes ht hi hz hsize hby hzs hsz v xs.length (xs.flatMap enc) hs (World.ownsRow.alloc hown _) ⟨w.heap.size, 0, none⟩ 1 1 (enc y) hx (by rw [hm]; omega) (fun j u hj => ?_) (h1 y) (by unfold maxLen; omega) ?_ (by simp; omega) (fun v' w' ho' hg _ hat => ?_)
  · rw [show (⟨w.heap.size, 0, none⟩ : Addr).add j = ⟨w.heap.size, j, none⟩ by unfold Addr.add; split <;> simp_all, World.cell?_alloc_mark, ← Array.getElem?_toList, hcs]
    exact hj
  · have : (xs.length + 1) * bytes ≤ (16777216 + 1) * 1024 := Nat.mul_le_mul (by omega) hb16
    omega
  · have hz' := hg.size
    simp at hz'
    refine h v' w' ?_ (((Below.refl B w).alloc hB _).grown hg (by simp; omega) (fun k hk => ((World.ownsRow.lt hown) k hk).1)) (fun X hX hne => ?_) ?_ (by omega)
    · show w'.ownsRow B e m v' (xs ++ [y]).length ((xs ++ [y]).flatMap enc)
      rw [List.length_append, List.flatMap_append, List.flatMap_cons, List.flatMap_nil, List.append_nil]
      exact ho'
    · have h1 : (w.alloc (.cells cs e)).heap[X]? = w.heap[X]? := ((Below.refl _ _).alloc (Nat.le_refl _) _).block X hX
      have hb := hg.block X (by simp; omega) (fun e => hne e.symm)
      exact hb.trans h1
    · rcases hat with g | g
      · exact .inl g
      · exact .inr (by rw [g]; simp)
/-- append(v, y) of one integer; every block but the slice's own stays. -/
theorem wp_appGI {ops : Array Oper} {rest : List Oper} {o : Oper} {a : Act} {Q : Exit → Act → World → Prop} (hgd : o.guard = none) (s x : Operand)
    (ho : o.op = .call { callee := .builtin .append, args := #[s, x], argTypes := #[22, 22] })
    (B : Nat) (v : Value) (xs : List Int) (y : Int) (w : World) (hown : OwnI w B v xs) (hs : a.eval s = v) (n : Nat) (hx : a.eval x = .slice (some ⟨n, 0, none⟩) 1 1) (hnw : n = w.heap.size) (hl : xs.length ≤ 16777216) (hB : B ≤ w.heap.size)
    (h : ∀ v' w', OwnI w' B v' (xs ++ [y]) → Below B w w' → (∀ X, X < w.heap.size → v.ownBlock ≠ some X → w'.heap[X]? = w.heap[X]?) → (v'.ownBlock = v.ownBlock ∨ v'.ownBlock = some (w.heap.size + 1)) → w.heap.size ≤ w'.heap.size → wpList Try.prog ops Q rest (a.put o.dst v') w') : wpList Try.prog ops Q (o :: rest) a (w.alloc (.cells #[.int .i64 y] 3)) := by
  obtain ⟨i0, hi, hz0, hz1, hz2⟩ := info_parts Try.infoI
  exact wp_appG (enc := encI) hgd s x 22 ho 8 Try.underlying22 hi hz0 hz1 hz2 rfl (by omega) (fun _ => rfl) (fun y u hu => by simp [encI] at hu; subst hu; rfl) (by omega) B v xs y _ w rfl hs n hx hnw hown hl hB h
end Go.Proofs.Ytpipegdjflniaaa
