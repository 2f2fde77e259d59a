/-
  'append(out, l...)' at a step of a region that draws: laws that name no program.
-/
import Derived.Test.YtglkgmijhdkhpaaDoorLent
set_option linter.unusedVariables false
namespace Go.Proofs.YtglkgmijhdkhpaaDoor
open Go.RowKit

section
variable {α : Type} {P : Program}
/-- l a slice that reads as a list: nil, empty or not. -/
theorem wp_append_all {w : World} {o : Oper} {a : Act} {K : Act → World → Prop} {Q : Exit → Act → World → Prop} (s y : Operand) (t : TypeId)
    (ho : o.op = .call { callee := .builtin .append, args := #[s, y], argTypes := #[t, t] })
    (base : Nat) (e : TypeId) (z : Value) (k bytes : Nat) (ht : P.underlying t = some (.slice e)) (hinfo : (P.info? e).map (fun i => (i.zero, i.size, i.bytes)) = some (some z, k, bytes)) (hzs : z.cells.size = k) (hk0 : 0 < k)
    (row : α → List Value) (hrow : ∀ x, (row x).length = k) (hone : ∀ x, ∀ u ∈ row x, u.oneCell' = true)
    (l0 : List α) (v : Value) (hs : a.eval s = v) (hown : Own k row e base w v l0) (l : List α) (B : Nat) (vs : Value) (hsl : Sl k row B w vs l) (hy : a.eval y = vs)
    (h63 : l0.length + l.length ≤ 4294967296) (hbytes : bytes ≤ 4096) (hbase : base ≤ w.heap.size)
    (h : ∀ v' w', Own k row e base w' v' (l0 ++ l) → Below base w w' → w.heap.size ≤ w'.heap.size → (∀ g, g < w.heap.size → some g ≠ v.ownBlock → w'.heap[g]? = w.heap[g]?) → (v' = .slice none 0 0 → v = .slice none 0 0 ∧ l = []) → K (a.put o.dst v') w') : o.wp P a w K Q := by
  obtain ⟨i, hi, hz, hsz, hby⟩ := info_parts hinfo
  obtain ⟨A, cap, rfl, h1, h2, hN, hA⟩ := hsl
  cases A with
  | none =>
    have hc0 := hN rfl
    have hl : l = [] := List.eq_nil_of_length_eq_zero (by omega)
    subst hl; subst hc0
    have hrun := run_append_owned_none (P := P) (w := w) base t o.type e i k ht hi v l0.length (l0.flatMap row) hown
    unfold Oper.wp
    have hy' : a.eval y = .slice none 0 0 := hy
    simp [execOp, ho, resolve, invoke, builtin, hs, hy', hrun, Result.andThen]
    exact h v w (by simpa using hown) (Below.refl _ _) (Nat.le_refl _) (fun _ _ _ => rfl) (fun h => ⟨h, rfl⟩)
  | some ad =>
    refine wp_append_own w s y t ho base e i z k bytes ht hi hz hsz hby hzs hk0 v l0.length (l0.flatMap row) hs hown ad l.length cap (l.flatMap row) hy (flat_length hrow l) ?_ ?_ (by unfold maxLen; omega) ?_ hbase ?_
    · intro j u hu
      obtain ⟨i', x, j', e1, e2, rfl⟩ := flat_inv hrow l j u hu
      obtain ⟨b, off, hb, _, hc⟩ := hA (by rintro rfl; simp at e1)
      injection hb with hb
      subst hb
      rw [Addr.add_lit, ← Nat.add_assoc]
      exact hc i' x e1 j' u e2
    · intro u hu
      obtain ⟨x, _, hx⟩ := List.mem_flatMap.1 hu
      exact hone x u hx
    · calc (l0.length + l.length) * bytes ≤ 4294967296 * 4096 := Nat.mul_le_mul h63 hbytes
        _ ≤ 140737488355328 := by omega
    · intro v' w' h1 h2 h3
      have hb : ∀ g, v.ownBlock = some g → base ≤ g := fun g hg => (World.ownsRow.lt hown g hg).1
      refine h v' w' ?_ ((Below.refl base w).grown h2 hbase hb) h2.size (fun g hg hne => h2.block g hg hne) (fun hv => ?_)
      · unfold Own; rw [List.flatMap_append, List.length_append]; exact h1
      · obtain ⟨e1, e2⟩ := h3.1 hv
        exact ⟨e1, List.eq_nil_of_length_eq_zero e2⟩
theorem step_append_all {w : World} {ops : Array Oper} {o : Oper} {a : Act} {K : Act → World → Prop} {Q : Exit → Act → World → Prop} {E : Prop} (hgd : o.guard = none) (s y : Operand) (t : TypeId)
    (ho : o.op = .call { callee := .builtin .append, args := #[s, y], argTypes := #[t, t] })
    (base : Nat) (e : TypeId) (z : Value) (k bytes : Nat) (ht : P.underlying t = some (.slice e)) (hinfo : (P.info? e).map (fun i => (i.zero, i.size, i.bytes)) = some (some z, k, bytes)) (hzs : z.cells.size = k) (hk0 : 0 < k)
    (row : α → List Value) (hrow : ∀ x, (row x).length = k) (hone : ∀ x, ∀ u ∈ row x, u.oneCell' = true)
    (l0 : List α) (v : Value) (hs : a.eval s = v) (hown : Own k row e base w v l0) (l : List α) (B : Nat) (vs : Value) (hsl : Sl k row B w vs l) (hy : a.eval y = vs)
    (h63 : l0.length + l.length ≤ 4294967296) (hbytes : bytes ≤ 4096) (hbase : base ≤ w.heap.size)
    (h : ∀ v' w', Own k row e base w' v' (l0 ++ l) → Below base w w' → w.heap.size ≤ w'.heap.size → (∀ g, g < w.heap.size → some g ≠ v.ownBlock → w'.heap[g]? = w.heap[g]?) → (v' = .slice none 0 0 → v = .slice none 0 0 ∧ l = []) → K (a.put o.dst v') w') :
    if Region.wanted o (yielded ops a.tmps) = true then Oper.wp P o a w K Q else E := by
  have hw : Region.wanted o (yielded ops a.tmps) = true := by simp [Region.wanted, hgd]
  rw [if_pos hw]
  exact wp_append_all s y t ho base e z k bytes ht hinfo hzs hk0 row hrow hone l0 v hs hown l B vs hsl hy h63 hbytes hbase h
theorem step_append_any {w : World} {ops : Array Oper} {o : Oper} {a : Act} {K : Act → World → Prop} {Q : Exit → Act → World → Prop} {E : Prop} (hgd : o.guard = none) (s y : Operand) (t : TypeId)
    (ho : o.op = .call { callee := .builtin .append, args := #[s, y], argTypes := #[t, t] })
    (base : Nat) (e : TypeId) (z : Value) (k bytes : Nat) (ht : P.underlying t = some (.slice e)) (hinfo : (P.info? e).map (fun i => (i.zero, i.size, i.bytes)) = some (some z, k, bytes)) (hzs : z.cells.size = k) (hk0 : 0 < k)
    (row : α → List Value) (hrow : ∀ x, (row x).length = k) (hone : ∀ x, ∀ u ∈ row x, u.oneCell' = true)
    (l0 : List α) (v : Value) (hs : a.eval s = v) (hown : Own k row e base w v l0) (l : List α) (vs : Value) (hsl : ∃ B, Sl k row B w vs l) (hy : a.eval y = vs)
    (h63 : l0.length + l.length ≤ 4294967296) (hbytes : bytes ≤ 4096) (hbase : base ≤ w.heap.size)
    (h : ∀ v' w', Own k row e base w' v' (l0 ++ l) → Below base w w' → w.heap.size ≤ w'.heap.size → (∀ g, g < w.heap.size → some g ≠ v.ownBlock → w'.heap[g]? = w.heap[g]?) → (v' = .slice none 0 0 → v = .slice none 0 0 ∧ l = []) → K (a.put o.dst v') w') :
    if Region.wanted o (yielded ops a.tmps) = true then Oper.wp P o a w K Q else E := by
  obtain ⟨B, hsl⟩ := hsl
  exact step_append_all hgd s y t ho base e z k bytes ht hinfo hzs hk0 row hrow hone l0 v hs hown l B vs hsl hy h63 hbytes hbase h
end
/-- A block that is known whole, as a list of rows. -/
theorem Box.sl {α : Type} {row : α → List Value} {k : Nat} (hrow : ∀ x, (row x).length = k) {w : World} {n : Nat} {t : TypeId} (l : List α) {cs : Array Value} (h : Box w n cs t) (hcs : cs = (l.flatMap row).toArray) (hl : l.length ≤ maxLen) :
    Sl k row w.heap.size w (.slice (some ⟨n, 0, none⟩) l.length l.length) l := by
  refine ⟨_, _, rfl, Nat.le_refl _, hl, fun h => by simp at h, fun _ => ⟨n, 0, rfl, h.lt, fun i x hx j u hu => ?_⟩⟩
  rw [Nat.zero_add, h.cell, hcs]
  simpa using flat_at hrow l i x hx j u hu
end Go.Proofs.YtglkgmijhdkhpaaDoor
