/- append(v, ys...) of records at a step of a drawn region. -/
import Derived.Test.YtambgommeannnaaOwr
import Derived.Deep.RegionHeld3
import Derived.Deep.DrawnRows
namespace Go.Proofs.Ytambgommeannnaa
open Go.ChangeShapes Go.WideShapes Go.ChangeAt Go.RowKit Go.PlainAid
set_option linter.unusedVariables false

theorem step_apps {α : Type} {e : TypeId} {m : Nat} {enc : α → List Value} {P : Program} {ops : Array Oper} {o : Oper} {a : Act} {K : Act → World → Prop} {Q : Exit → Act → World → Prop} {E : Prop} (hgd : o.guard = none) (s x : Operand) (t : TypeId)
    (ho : o.op = .call { callee := .builtin .append, args := #[s, x], argTypes := #[t, t] }) (bytes : Nat) {z : Value} {i0 : TypeInfo} (ht : P.underlying t = some (.slice e)) (hi : P.info? e = some i0) (hz : i0.zero = some z) (hsize : i0.size = m) (hby : i0.bytes = bytes) (hzs : z.cells.size = m) (hsz : 0 < m)
    (hm : ∀ y, (enc y).length = m) (h1 : ∀ y, ∀ u ∈ enc y, u.oneCell' = true) (hb16 : bytes ≤ 1024)
    (B : Nat) (v : Value) (xs ys : List α) (w : World) (hown : OwnE e m enc w B v xs) (hs : a.eval s = v) (b i c n : Nat) (hx : a.eval x = .slice (some ⟨b, i, none⟩) n c) (hn : ys.length = n)
    (hc : ∀ j u, (ys.flatMap enc)[j]? = some u → w.cell? ⟨b, i + j, none⟩ = some u) (hl : xs.length + ys.length ≤ 16777216) (hB : B ≤ w.heap.size)
    (h : ∀ v' w', OwnE e m enc w' B v' (xs ++ ys) → Below B w w' → w.grownBy w' v.ownBlock → K (a.put o.dst v') w') :
    if Region.wanted o (yielded ops a.tmps) = true then Oper.wp P o a w K Q else E := by
  have hw : Region.wanted o (yielded ops a.tmps) = true := by simp [Region.wanted, hgd]
  rw [if_pos hw]
  subst hn
  refine wp_append_own w s x t ho B e i0 _ m bytes ht hi hz hsize hby hzs hsz v xs.length (xs.flatMap enc) hs hown ⟨b, i, none⟩ ys.length c (ys.flatMap enc) hx (flat_len hm ys) (fun j u hj => ?_) (fun u hu => ?_) (by unfold maxLen; omega) ?_ hB (fun v' w' ho' hg _ => ?_)
  · rw [show (⟨b, i, none⟩ : Addr).add j = ⟨b, i + j, none⟩ by unfold Addr.add; split <;> simp_all]
    exact hc j u hj
  · obtain ⟨y, _, hu⟩ := List.mem_flatMap.1 hu
    exact h1 y u hu
  · have : (xs.length + ys.length) * bytes ≤ 16777216 * 1024 := Nat.mul_le_mul hl hb16
    omega
  · refine h v' w' ?_ ((Below.refl B w).grown hg hB (fun k hk => ((World.ownsRow.lt hown) k hk).1)) hg
    show w'.ownsRow B e m v' (xs ++ ys).length ((xs ++ ys).flatMap enc)
    rw [List.length_append, List.flatMap_append]
    exact ho'
end Go.Proofs.Ytambgommeannnaa
