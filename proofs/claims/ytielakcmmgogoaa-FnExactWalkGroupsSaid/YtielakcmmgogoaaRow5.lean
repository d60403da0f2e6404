/- Rows that a call appends one by one: the append. -/
import Derived.Test.YtielakcmmgogoaaRow4
import Derived.Maps.AppendAt
namespace Go.Proofs.Ytielakcmmgogoaa
open Go.ChangeShapes Go.WideShapes Go.ChangeAt Go.RowKit Go.PlainAid
set_option linter.unusedVariables false
set_option linter.unusedSimpArgs false

theorem Same.of_blk {w w' : World} {X : Nat} (h : w'.heap[X]? = w.heap[X]?) : Same w w' X := fun o => ⟨World.cell?_of_block (a := ⟨X, o, none⟩) h, World.frozen?_of_block (a := ⟨X, o, none⟩) h⟩
theorem OwnE.kept {α : Type} {e : TypeId} {m : Nat} {enc : α → List Value} {w w' : World} {B : Nat} {v : Value} {xs : List α} (h : OwnE e m enc w B v xs) (hs : ∀ X, v.ownBlock = some X → w'.heap[X]? = w.heap[X]?) : OwnE e m enc w' B v xs := by
  obtain ⟨h1, h2⟩ := h
  refine ⟨h1, ?_⟩
  rcases h2 with h2 | ⟨g, cap, cur, hv, hg, hh, r⟩
  · exact Or.inl h2
  · exact Or.inr ⟨g, cap, cur, hv, hg, by rw [hs g (by rw [hv]; rfl)]; exact hh, r⟩
theorem ROut.kept {w w' : World} {B : Nat} {v : Value} {xs : List (List Int)} {svs : List SV} {p : Nat → Nat} (h : ROut w B v xs svs p) (hz : w.heap.size ≤ w'.heap.size) (h1 : ∀ X, v.ownBlock = some X → w'.heap[X]? = w.heap[X]?) (h2 : ∀ k, k < xs.length → w'.heap[p k]? = w.heap[p k]?) : ROut w' B v xs svs p :=
  ⟨h.own.kept h1, h.len, h.sv, fun k hk => (h.row k hk).keep fun q hq => by
    have h3 := hq.1
    have h4 := hq.2
    have e : q = p k := by omega
    subst e
    exact Same.of_blk (h2 k hk), fun k hk => ⟨(h.p0 k hk).1, Nat.lt_of_lt_of_le (h.p0 k hk).2 hz⟩, h.pp, h.ne⟩
/-- append(v, y) of one element; every block but the slice's own stays. -/
theorem wp_appG {α : Type} {e : TypeId} {m : Nat} {enc : α → List Value} {P : Program} {ops : Array Oper} {rest : List Oper} {o : Oper} {a : Act} {Q : Exit → Act → World → Prop} (hgd : o.guard = none) (s x : Operand) (t : TypeId)
    (ho : o.op = .call { callee := .builtin .append, args := #[s, x], argTypes := #[t, t] }) (bytes : Nat) {z : Value} {i : TypeInfo} (ht : P.underlying t = some (.slice e)) (hi : P.info? e = some i) (hz : i.zero = some z) (hsize : i.size = m) (hby : i.bytes = bytes) (hzs : z.cells.size = m) (hsz : 0 < m)
    (hm : ∀ y, (enc y).length = m) (h1 : ∀ y, ∀ u ∈ enc y, u.oneCell' = true) (hb16 : bytes ≤ 1024)
    (B : Nat) (v : Value) (xs : List α) (y : α) (cs : Array Value) (w : World) (hcs : cs.toList = enc y) (hs : a.eval s = v) (n : Nat) (hx : a.eval x = .slice (some ⟨n, 0, none⟩) 1 1) (hnw : n = w.heap.size) (hown : OwnE e m enc w B v xs) (hl : xs.length ≤ 16777216) (hB : B ≤ w.heap.size)
    (h : ∀ v' w', OwnE e m enc w' B v' (xs ++ [y]) → Below B w w' → (∀ X, X < w.heap.size → v.ownBlock ≠ some X → w'.heap[X]? = w.heap[X]?) → (v'.ownBlock = v.ownBlock ∨ v'.ownBlock = some (w.heap.size + 1)) → w.heap.size ≤ w'.heap.size → wpList P ops Q rest (a.put o.dst v') w') : wpList P ops Q (o :: rest) a (w.alloc (.cells cs e)) := by
  subst hnw
  refine wpList_append_own_at _ hgd s x t ho B e i z m bytes ht hi hz hsize hby hzs hsz v xs.length (xs.flatMap enc) hs (World.ownsRow.alloc hown _) ⟨w.heap.size, 0, none⟩ 1 1 (enc y) hx (by rw [hm]; omega) (fun j u hj => ?_) (h1 y) (by unfold maxLen; omega) ?_ (by simp; omega) (fun v' w' ho' hg _ hat => ?_)
  · rw [show (⟨w.heap.size, 0, none⟩ : Addr).add j = ⟨w.heap.size, j, none⟩ by unfold Addr.add; split <;> simp_all, World.cell?_alloc_mark, ← Array.getElem?_toList, hcs]
    exact hj
  · have : (xs.length + 1) * bytes ≤ (16777216 + 1) * 1024 := Nat.mul_le_mul (by omega) hb16
    omega
  · have hz' := hg.size
    simp at hz'
    refine h v' w' ?_ (((Below.refl B w).alloc hB _).grown hg (by simp; omega) (fun k hk => ((World.ownsRow.lt hown) k hk).1)) (fun X hX hne => ?_) ?_ (by omega)
    · show w'.ownsRow B e m v' (xs ++ [y]).length ((xs ++ [y]).flatMap enc)
      rw [List.length_append, List.flatMap_append, List.flatMap_cons, List.flatMap_nil, List.append_nil]
      exact ho'
    · have h1 : (w.alloc (.cells cs e)).heap[X]? = w.heap[X]? := ((Below.refl _ _).alloc (Nat.le_refl _) _).block X hX
      have hb := hg.block X (by simp; omega) (fun e => hne e.symm)
      exact hb.trans h1
    · rcases hat with g | g
      · exact .inl g
      · exact .inr (by rw [g]; simp)
theorem nthR_lt {xs : List (List Int)} {r : List Int} {k : Nat} (h : k < xs.length) : nthR (xs ++ [r]) k = nthR xs k := by
  unfold nthR
  rw [List.getD_eq_getElem?_getD, List.getElem?_append_left h, ← List.getD_eq_getElem?_getD]
theorem nthR_eq (xs : List (List Int)) (r : List Int) : nthR (xs ++ [r]) xs.length = r := by
  unfold nthR
  rw [List.getD_eq_getElem?_getD, List.getElem?_append_right (Nat.le_refl _), Nat.sub_self]
  rfl
theorem nthV_lt {xs : List SV} {r : SV} {k : Nat} (h : k < xs.length) : nthV (xs ++ [r]) k = nthV xs k := by
  unfold nthV
  rw [List.getD_eq_getElem?_getD, List.getElem?_append_left h, ← List.getD_eq_getElem?_getD]
theorem nthV_eq (xs : List SV) (r : SV) : nthV (xs ++ [r]) xs.length = r := by
  unfold nthV
  rw [List.getD_eq_getElem?_getD, List.getElem?_append_right (Nat.le_refl _), Nat.sub_self]
  rfl
theorem Try.infoRowV : (Try.prog.info? 45).map (fun i => (i.zero, i.size, i.bytes)) = some (some (.slice none 0 0), 1, 24) := by kernel_rfl
set_option maxRecDepth 100000 in
set_option maxHeartbeats 1000000 in
theorem wp_appRow {ops : Array Oper} {rest : List Oper} {o : Oper} {a : Act} {Q : Exit → Act → World → Prop} (hgd : o.guard = none) (s x : Operand)
    (ho : o.op = .call { callee := .builtin .append, args := #[s, x], argTypes := #[29, 29] })
    (B : Nat) (v : Value) (xs : List (List Int)) (svs : List SV) (p : Nat → Nat) (r : List Int) (S : Option Addr) (c pn : Nat) (w : World) (hown : ROut w B v xs svs p) (hs : a.eval s = v) (n : Nat) (hx : a.eval x = .slice (some ⟨n, 0, none⟩) 1 1) (hnw : n = w.heap.size)
    (hr : IntsIn w (Zone.new pn (pn + 1)) S r) (hp0 : B ≤ pn ∧ pn < w.heap.size) (hpp : ∀ k, k < xs.length → p k ≠ pn) (hne : v.ownBlock ≠ some pn) (hl : xs.length ≤ 16777216) (hB : B ≤ w.heap.size)
    (h : ∀ v' w', ROut w' B v' (xs ++ [r]) (svs ++ [⟨S, r.length, c⟩]) (fun j => if j = xs.length then pn else p j) → Below B w w' → (∀ X, X < w.heap.size → v.ownBlock ≠ some X → w'.heap[X]? = w.heap[X]?) → (v'.ownBlock = v.ownBlock ∨ v'.ownBlock = some (w.heap.size + 1)) → w.heap.size ≤ w'.heap.size → wpList Try.prog ops Q rest (a.put o.dst v') w') : wpList Try.prog ops Q (o :: rest) a (w.alloc (.cells #[.slice S r.length c] 45)) := by
  obtain ⟨i0, hi, hz0, hz1, hz2⟩ := info_parts Try.infoRowV
  have hsl := hown.len
  refine wp_appG (enc := encSV) hgd s x 29 ho 24 Try.underlying29 hi hz0 hz1 hz2 rfl (by omega) (fun _ => rfl) encSV_cell (by omega) B v svs ⟨S, r.length, c⟩ _ w rfl hs n hx hnw hown.own (by omega) hB (fun v' w' ho' hb hsm hat hz => ?_)
  refine h v' w' ⟨ho', by simp [hsl], fun k hk => ?_, fun k hk => ?_, fun k hk => ?_, fun j k hj hk hjk => ?_, fun k hk => ?_⟩ hb hsm hat hz
  all_goals simp only [List.length_append, List.length_singleton] at *
  · by_cases e : k = xs.length
    · subst e
      rw [nthR_eq, ← hsl, nthV_eq]
    · rw [nthR_lt (by omega), nthV_lt (by omega)]
      exact hown.sv k (by omega)
  · by_cases e : k = xs.length
    · subst e
      rw [nthR_eq, if_pos rfl, ← hsl, nthV_eq]
      exact hr.keep fun q hq => by
        have h1 := hq.1
        have h2 := hq.2
        have e : q = pn := by omega
        subst e
        exact Same.of_blk (hsm q hp0.2 hne)
    · rw [nthR_lt (by omega), nthV_lt (by omega), if_neg e]
      exact (hown.row k (by omega)).keep fun q hq => by
        have h1 := hq.1
        have h2 := hq.2
        have e : q = p k := by omega
        subst e
        exact Same.of_blk (hsm _ (hown.p0 k (by omega)).2 (hown.ne k (by omega)))
  · by_cases e : k = xs.length
    · rw [if_pos e]; omega
    · rw [if_neg e]; have := hown.p0 k (by omega); omega
  · by_cases e : j = xs.length
    · rw [if_pos e, if_neg (by omega)]
      exact fun h => hpp k (by omega) h.symm
    · rw [if_neg e]
      by_cases e2 : k = xs.length
      · rw [if_pos e2]; exact hpp j (by omega)
      · rw [if_neg e2]; exact hown.pp j k (by omega) (by omega) hjk
  · have hk2 : (if k = xs.length then pn else p k) < w.heap.size ∧ v.ownBlock ≠ some (if k = xs.length then pn else p k) := by
      by_cases e : k = xs.length
      · rw [if_pos e]; exact ⟨hp0.2, hne⟩
      · rw [if_neg e]; exact ⟨(hown.p0 k (by omega)).2, hown.ne k (by omega)⟩
    rcases hat with g | g
    · rw [g]; exact hk2.2
    · rw [g]; simp; omega
/-- append(v, y) of one integer; every block but the slice's own stays. -/
theorem wp_appGI {ops : Array Oper} {rest : List Oper} {o : Oper} {a : Act} {Q : Exit → Act → World → Prop} (hgd : o.guard = none) (s x : Operand)
    (ho : o.op = .call { callee := .builtin .append, args := #[s, x], argTypes := #[45, 45] })
    (B : Nat) (v : Value) (xs : List Int) (y : Int) (w : World) (hown : OwnI w B v xs) (hs : a.eval s = v) (n : Nat) (hx : a.eval x = .slice (some ⟨n, 0, none⟩) 1 1) (hnw : n = w.heap.size) (hl : xs.length ≤ 16777216) (hB : B ≤ w.heap.size)
    (h : ∀ v' w', OwnI w' B v' (xs ++ [y]) → Below B w w' → (∀ X, X < w.heap.size → v.ownBlock ≠ some X → w'.heap[X]? = w.heap[X]?) → (v'.ownBlock = v.ownBlock ∨ v'.ownBlock = some (w.heap.size + 1)) → w.heap.size ≤ w'.heap.size → wpList Try.prog ops Q rest (a.put o.dst v') w') : wpList Try.prog ops Q (o :: rest) a (w.alloc (.cells #[.int .i64 y] 3)) := by
  obtain ⟨i0, hi, hz0, hz1, hz2⟩ := info_parts Try.infoI
  exact wp_appG (enc := encI) hgd s x 45 ho 8 Try.underlying45 hi hz0 hz1 hz2 rfl (by omega) (fun _ => rfl) (fun y u hu => by simp [encI] at hu; subst hu; rfl) (by omega) B v xs y _ w rfl hs n hx hnw hown hl hB h
end Go.Proofs.Ytielakcmmgogoaa
