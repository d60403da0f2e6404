/- Copies of networks: the reference's lists. -/
import Derived.Test.YtambgommeannnaaNod
import Derived.Test.YtambgommeannnaaApg
namespace Go.Proofs.Ytambgommeannnaa
open Go.ChangeShapes Go.WideShapes Go.ChangeAt Go.RowKit Go.PlainAid
set_option linter.unusedVariables false
set_option linter.unusedSimpArgs false

/-- append(v, ys...) . -/
theorem wp_apps {α : Type} {e : TypeId} {m : Nat} {enc : α → List Value} {P : Program} {ops : Array Oper} {rest : List Oper} {o : Oper} {a : Act} {Q : Exit → Act → World → Prop} (hgd : o.guard = none) (s x : Operand) (t : TypeId)
    (ho : o.op = .call { callee := .builtin .append, args := #[s, x], argTypes := #[t, t] }) (bytes : Nat) {z : Value} {i0 : TypeInfo} (ht : P.underlying t = some (.slice e)) (hi : P.info? e = some i0) (hz : i0.zero = some z) (hsize : i0.size = m) (hby : i0.bytes = bytes) (hzs : z.cells.size = m) (hsz : 0 < m)
    (hm : ∀ y, (enc y).length = m) (h1 : ∀ y, ∀ u ∈ enc y, u.oneCell' = true) (hb16 : bytes ≤ 1024)
    (B : Nat) (v : Value) (xs ys : List α) (w : World) (hown : OwnE e m enc w B v xs) (hs : a.eval s = v) (b i c n : Nat) (hx : a.eval x = .slice (some ⟨b, i, none⟩) n c) (hn : ys.length = n)
    (hc : ∀ j u, (ys.flatMap enc)[j]? = some u → w.cell? ⟨b, i + j, none⟩ = some u) (hl : xs.length + ys.length ≤ 16777216) (hB : B ≤ w.heap.size)
    (h : ∀ v' w', OwnE e m enc w' B v' (xs ++ ys) → Below B w w' → w.grownBy w' v.ownBlock → wpList P ops Q rest (a.put o.dst v') w') : wpList P ops Q (o :: rest) a w := by
  subst hn
  refine wpList_append_own _ hgd s x t ho B e i0 z m bytes ht hi hz hsize hby hzs hsz v xs.length (xs.flatMap enc) hs hown ⟨b, i, none⟩ ys.length c (ys.flatMap enc) hx (flat_len hm ys) (fun j u hj => ?_) (fun u hu => ?_) (by unfold maxLen; omega) ?_ hB (fun v' w' ho' hg _ => ?_)
  · rw [show (⟨b, i, none⟩ : Addr).add j = ⟨b, i + j, none⟩ by unfold Addr.add; split <;> simp_all]
    exact hc j u hj
  · obtain ⟨y, _, hu⟩ := List.mem_flatMap.1 hu
    exact h1 y u hu
  · have : (xs.length + ys.length) * bytes ≤ 16777216 * 1024 := Nat.mul_le_mul hl hb16
    omega
  · refine h v' w' ?_ ((Below.refl B w).grown hg hB (fun k hk => ((World.ownsRow.lt hown) k hk).1)) hg
    show w'.ownsRow B e m v' (xs ++ ys).length ((xs ++ ys).flatMap enc)
    rw [List.length_append, List.flatMap_append]
    exact ho'
theorem own_some {α : Type} {e : TypeId} {m : Nat} {enc : α → List Value} {w : World} {B : Nat} {v : Value} {xs : List α} (h : OwnE e m enc w B v xs) (h0 : 0 < xs.length) : ∃ g cap, v = .slice (some ⟨g, 0, none⟩) xs.length cap := by
  obtain ⟨_, hq | ⟨g, cap, cur, hv, _⟩⟩ := h
  · omega
  · exact ⟨g, cap, hv⟩
set_option maxHeartbeats 1000000 in
theorem l1Own_any (b o c : Nat) (xs : List Int) (w : World) (h : IntsIn w (Zone.below w.heap.size) (some ⟨b, o, none⟩) xs) (h0 : 0 < xs.length) (hn : xs.length ≤ 1048576) :
    Calls Try.prog 160 #[.slice (some ⟨b, o, none⟩) xs.length c] w fun e w' => ∃ g cap, e = .returned (.slice (some ⟨g, 0, none⟩) xs.length cap) ∧ OwnI w' w.heap.size (.slice (some ⟨g, 0, none⟩) xs.length cap) xs ∧ Below w.heap.size w w' := by
  obtain ⟨i0, hi, hz0, hz1, hz2⟩ := info_parts Try.infoI
  have hc : ∀ j u, (xs.flatMap encI)[j]? = some u → (w.alloc (.cells #[] 3)).cell? ⟨b, o + j, none⟩ = some u := fun j u hj => by
    obtain ⟨hl, rfl⟩ := flat_int _ _ _ hj
    obtain ⟨b', o', e, hb, _, hc⟩ := h (by omega)
    simp only [Option.some.injEq, Addr.mk.injEq, and_true] at e
    obtain ⟨rfl, rfl⟩ := e
    exact (((Below.refl w.heap.size w).alloc (Nat.le_refl _) _).cell (p := ⟨b, _, none⟩) hb).trans (hc j hl)
  have HC := Lib.hid hc
  have HO : Hid (OwnI (w.alloc (.cells #[] 3)) w.heap.size (.slice (some ⟨w.heap.size, 0, none⟩) 0 0) []) := Lib.hid (by simpa using OwnE.empty (e := 3) (m := 1) (enc := encI) (w := w) (Nat.le_refl _))
  have hzw : w.heap.size ≤ (w.alloc (.cells #[] 3)).heap.size := by simp
  have hll : ([] : List Int).length + xs.length ≤ 16777216 := by simp; omega
  clear hc h
  go_enter Try.func160, Try.ntmps160
  go_wp2_with (at_builtin; go_loud (refine wp_apps rfl _ _ 22 rfl 8 Try.underlying22 hi hz0 hz1 hz2 rfl (by omega) (fun _ => rfl) (fun y u hu => by simp [encI] at hu; subst hu; rfl) (by omega) w.heap.size _ [] xs _ HO.out rfl b o c xs.length rfl rfl HC.out hll hzw ?_; intro v' w' ho' hb' hg'; obtain ⟨g, cap, rfl⟩ := own_some ho' (by simpa using h0); have HO' := Lib.hid ho'; have HB' := Lib.hid (((Below.refl w.heap.size w).alloc (Nat.le_refl _) (.cells #[] 3)).trans hb'); clear ho' hb' hg'))
  go_ret
  exact ⟨g, cap, by simp, by simpa using HO'.out, HB'.out⟩
end Go.Proofs.Ytambgommeannnaa
