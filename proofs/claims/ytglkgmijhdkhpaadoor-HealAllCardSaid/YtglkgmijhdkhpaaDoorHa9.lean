/-
  Merged: Append, Ext.
-/
import Derived.Test.YtglkgmijhdkhpaaDoorHa7
import Derived.Test.YtglkgmijhdkhpaaDoorHa6
import Derived.Deep.QuietTactic
import Derived.BigQuiet
/-
  'append(out, l...)' at a step of a region that draws: laws that name no program.
-/
set_option linter.unusedVariables false
namespace Go.Proofs.YtglkgmijhdkhpaaDoor
open Go.RowKit

section
variable {α : Type} {P : Program}
/-- l a slice that reads as a list: nil, empty or not. -/
theorem wp_append_all {w : World} {o : Oper} {a : Act} {K : Act → World → Prop} {Q : Exit → Act → World → Prop} (s y : Operand) (t : TypeId)
    (ho : o.op = .call { callee := .builtin .append, args := #[s, y], argTypes := #[t, t] })
    (base : Nat) (e : TypeId) (z : Value) (k bytes : Nat) (ht : P.underlying t = some (.slice e)) (hinfo : (P.info? e).map (fun i => (i.zero, i.size, i.bytes)) = some (some z, k, bytes)) (hzs : z.cells.size = k) (hk0 : 0 < k)
    (row : α → List Value) (hrow : ∀ x, (row x).length = k) (hone : ∀ x, ∀ u ∈ row x, u.oneCell' = true)
    (l0 : List α) (v : Value) (hs : a.eval s = v) (hown : Own k row e base w v l0) (l : List α) (B : Nat) (vs : Value) (hsl : Sl k row B w vs l) (hy : a.eval y = vs)
    (h63 : l0.length + l.length ≤ 4294967296) (hbytes : bytes ≤ 4096) (hbase : base ≤ w.heap.size)
    (h : ∀ v' w', Own k row e base w' v' (l0 ++ l) → Below base w w' → w.heap.size ≤ w'.heap.size → (∀ g, g < w.heap.size → some g ≠ v.ownBlock → w'.heap[g]? = w.heap[g]?) → (v' = .slice none 0 0 → v = .slice none 0 0 ∧ l = []) → K (a.put o.dst v') w') : o.wp P a w K Q := by
  obtain ⟨i, hi, hz, hsz, hby⟩ := info_parts hinfo
  obtain ⟨A, cap, rfl, h1, h2, hN, hA⟩ := hsl
  cases A with
  | none =>
    have hc0 := hN rfl
    have hl : l = [] := List.eq_nil_of_length_eq_zero (by omega)
    subst hl; subst hc0
    have hrun := run_append_owned_none (P := P) (w := w) base t o.type e i k ht hi v l0.length (l0.flatMap row) hown
    unfold Oper.wp
    have hy' : a.eval y = .slice none 0 0 := hy
    simp [execOp, ho, resolve, invoke, builtin, hs, hy', hrun, Result.andThen]
    exact h v w (by simpa using hown) (Below.refl _ _) (Nat.le_refl _) (fun _ _ _ => rfl) (fun h => ⟨h, rfl⟩)
  | some ad =>
    refine wp_append_own w s y t ho base e i z k bytes ht hi hz hsz hby hzs hk0 v l0.length (l0.flatMap row) hs hown ad l.length cap (l.flatMap row) hy (flat_length hrow l) ?_ ?_ (by unfold maxLen; omega) ?_ hbase ?_
    · intro j u hu
      obtain ⟨i', x, j', e1, e2, rfl⟩ := flat_inv hrow l j u hu
      obtain ⟨b, off, hb, _, hc⟩ := hA (by rintro rfl; simp at e1)
      injection hb with hb
      subst hb
      rw [Addr.add_lit, ← Nat.add_assoc]
      exact hc i' x e1 j' u e2
    · intro u hu
      obtain ⟨x, _, hx⟩ := List.mem_flatMap.1 hu
      exact hone x u hx
    · calc (l0.length + l.length) * bytes ≤ 4294967296 * 4096 := Nat.mul_le_mul h63 hbytes
        _ ≤ 140737488355328 := by omega
    · intro v' w' h1 h2 h3
      have hb : ∀ g, v.ownBlock = some g → base ≤ g := fun g hg => (World.ownsRow.lt hown g hg).1
      refine h v' w' ?_ ((Below.refl base w).grown h2 hbase hb) h2.size (fun g hg hne => h2.block g hg hne) (fun hv => ?_)
      · unfold Own; rw [List.flatMap_append, List.length_append]; exact h1
      · obtain ⟨e1, e2⟩ := h3.1 hv
        exact ⟨e1, List.eq_nil_of_length_eq_zero e2⟩
theorem step_append_all {w : World} {ops : Array Oper} {o : Oper} {a : Act} {K : Act → World → Prop} {Q : Exit → Act → World → Prop} {E : Prop} (hgd : o.guard = none) (s y : Operand) (t : TypeId)
    (ho : o.op = .call { callee := .builtin .append, args := #[s, y], argTypes := #[t, t] })
    (base : Nat) (e : TypeId) (z : Value) (k bytes : Nat) (ht : P.underlying t = some (.slice e)) (hinfo : (P.info? e).map (fun i => (i.zero, i.size, i.bytes)) = some (some z, k, bytes)) (hzs : z.cells.size = k) (hk0 : 0 < k)
    (row : α → List Value) (hrow : ∀ x, (row x).length = k) (hone : ∀ x, ∀ u ∈ row x, u.oneCell' = true)
    (l0 : List α) (v : Value) (hs : a.eval s = v) (hown : Own k row e base w v l0) (l : List α) (B : Nat) (vs : Value) (hsl : Sl k row B w vs l) (hy : a.eval y = vs)
    (h63 : l0.length + l.length ≤ 4294967296) (hbytes : bytes ≤ 4096) (hbase : base ≤ w.heap.size)
    (h : ∀ v' w', Own k row e base w' v' (l0 ++ l) → Below base w w' → w.heap.size ≤ w'.heap.size → (∀ g, g < w.heap.size → some g ≠ v.ownBlock → w'.heap[g]? = w.heap[g]?) → (v' = .slice none 0 0 → v = .slice none 0 0 ∧ l = []) → K (a.put o.dst v') w') :
    if Region.wanted o (yielded ops a.tmps) = true then Oper.wp P o a w K Q else E := by
  have hw : Region.wanted o (yielded ops a.tmps) = true := by simp [Region.wanted, hgd]
  rw [if_pos hw]
  exact wp_append_all s y t ho base e z k bytes ht hinfo hzs hk0 row hrow hone l0 v hs hown l B vs hsl hy h63 hbytes hbase h
theorem step_append_any {w : World} {ops : Array Oper} {o : Oper} {a : Act} {K : Act → World → Prop} {Q : Exit → Act → World → Prop} {E : Prop} (hgd : o.guard = none) (s y : Operand) (t : TypeId)
    (ho : o.op = .call { callee := .builtin .append, args := #[s, y], argTypes := #[t, t] })
    (base : Nat) (e : TypeId) (z : Value) (k bytes : Nat) (ht : P.underlying t = some (.slice e)) (hinfo : (P.info? e).map (fun i => (i.zero, i.size, i.bytes)) = some (some z, k, bytes)) (hzs : z.cells.size = k) (hk0 : 0 < k)
    (row : α → List Value) (hrow : ∀ x, (row x).length = k) (hone : ∀ x, ∀ u ∈ row x, u.oneCell' = true)
    (l0 : List α) (v : Value) (hs : a.eval s = v) (hown : Own k row e base w v l0) (l : List α) (vs : Value) (hsl : ∃ B, Sl k row B w vs l) (hy : a.eval y = vs)
    (h63 : l0.length + l.length ≤ 4294967296) (hbytes : bytes ≤ 4096) (hbase : base ≤ w.heap.size)
    (h : ∀ v' w', Own k row e base w' v' (l0 ++ l) → Below base w w' → w.heap.size ≤ w'.heap.size → (∀ g, g < w.heap.size → some g ≠ v.ownBlock → w'.heap[g]? = w.heap[g]?) → (v' = .slice none 0 0 → v = .slice none 0 0 ∧ l = []) → K (a.put o.dst v') w') :
    if Region.wanted o (yielded ops a.tmps) = true then Oper.wp P o a w K Q else E := by
  obtain ⟨B, hsl⟩ := hsl
  exact step_append_all hgd s y t ho base e z k bytes ht hinfo hzs hk0 row hrow hone l0 v hs hown l B vs hsl hy h63 hbytes hbase h
end
/-- A block that is known whole, as a list of rows. -/
theorem Box.sl {α : Type} {row : α → List Value} {k : Nat} (hrow : ∀ x, (row x).length = k) {w : World} {n : Nat} {t : TypeId} (l : List α) {cs : Array Value} (h : Box w n cs t) (hcs : cs = (l.flatMap row).toArray) (hl : l.length ≤ maxLen) :
    Sl k row w.heap.size w (.slice (some ⟨n, 0, none⟩) l.length l.length) l := by
  refine ⟨_, _, rfl, Nat.le_refl _, hl, fun h => by simp at h, fun _ => ⟨n, 0, rfl, h.lt, fun i x hx j u hu => ?_⟩⟩
  rw [Nat.zero_add, h.cell, hcs]
  simpa using flat_at hrow l i x hx j u hu
end Go.Proofs.YtglkgmijhdkhpaaDoor
/-
  A REGION, whether it draws its order or not, walked once over a class of worlds that is a type: laws that name no program.
-/
set_option linter.unusedVariables false
namespace Go.Proofs.YtglkgmijhdkhpaaDoor
open Go.RowKit

/-! ### The class as a subtype: facts on its worlds hold without a condition, so that the walk's own simp uses them -/
/-- A world that leaves all that stood in W be. -/
def Ext (W : World) : Type := { w' : World // Below W.heap.size W w' }
/-- The world itself. -/
def Ext.wd {W : World} (x : Ext W) : World := x.val
theorem Ext.low {W : World} (x : Ext W) : Below W.heap.size W x.wd := x.property
def Ext.mk {W w : World} (h : Below W.heap.size W w) : Ext W := ⟨w, h⟩
instance ext_nonempty (W : World) : Nonempty (Ext W) := ⟨Ext.mk (Below.refl _ _)⟩

section
variable {P : Program} {ops : Array Oper} {C : World → Prop}
theorem wpList_of_quiet {Q : Act → Prop} {Q' : Exit → Act → World → Prop} (hQ : ∀ a w, C w → Q a → Q' .normal a w) : ∀ (l : List Oper) (a : Act) (w : World), C w → wpQuiet P ops C Q l a → wpList P ops Q' l a w
  | [], a, w, hw, h => hQ a w hw h
  | o :: rest, a, w, hw, h => by
    unfold wpQuiet at h
    unfold wpList
    split at h
    · rename_i hwant
      rw [if_pos hwant]
      exact .inl (Oper.wp_of_quiet hw (fun a' w' hw' h' => wpList_of_quiet hQ rest a' w' hw' h') h)
    · rename_i hwant
      rw [if_neg hwant]
      exact wpList_of_quiet hQ rest _ w hw h
end
/-- A region that draws its order, walked once. -/
theorem wp_region_ext {P : Program} {id : Nat} {Q : Exit → Act → World → Prop} {a : Act} {w : World} {l : List Oper} (hm : P.follows .mixedOrders = true) (hB : Region.lexB .any l.toArray = true)
    (h : wpQuiet P l.toArray (fun w' => ∃ x : Ext w, w' = x.wd) (fun a' => ∀ w', (∃ x : Ext w, w' = x.wd) → Q .normal a' w') l a) : (Code.region id l.toArray true).wp P Q a w :=
  wp_region_quiet (C := fun w' => ∃ x : Ext w, w' = x.wd) hm hB ⟨Ext.mk (Below.refl _ _).drew, rfl⟩ (by simpa using h)
/-- A region that does not. -/
theorem wp_region_ext_plain {P : Program} {id : Nat} {Q : Exit → Act → World → Prop} {a : Act} {w : World} {l : List Oper}
    (h : wpQuiet P l.toArray (fun w' => ∃ x : Ext w, w' = x.wd) (fun a' => ∀ w', (∃ x : Ext w, w' = x.wd) → Q .normal a' w') l a) : (Code.region id l.toArray false).wp P Q a w :=
  wp_region_lit (wpList_of_quiet (C := fun w' => ∃ x : Ext w, w' = x.wd) (fun _ w' hw h => h w' hw) l a w ⟨Ext.mk (Below.refl _ _), rfl⟩ h)
/-- The same, begun in a world of a class that stands. -/
theorem wp_region_ext_at {P : Program} {id : Nat} {Q : Exit → Act → World → Prop} {a : Act} {W : World} (x0 : Ext W) {l : List Oper} (hm : P.follows .mixedOrders = true) (hB : Region.lexB .any l.toArray = true)
    (h : wpQuiet P l.toArray (fun w' => ∃ x : Ext W, w' = x.wd) (fun a' => ∀ w', (∃ x : Ext W, w' = x.wd) → Q .normal a' w') l a) : (Code.region id l.toArray true).wp P Q a x0.wd :=
  wp_region_quiet (C := fun w' => ∃ x : Ext W, w' = x.wd) hm hB ⟨Ext.mk x0.low.drew, rfl⟩ (by simpa using h)
theorem wp_region_ext_plain_at {P : Program} {id : Nat} {Q : Exit → Act → World → Prop} {a : Act} {W : World} (x0 : Ext W) {l : List Oper}
    (h : wpQuiet P l.toArray (fun w' => ∃ x : Ext W, w' = x.wd) (fun a' => ∀ w', (∃ x : Ext W, w' = x.wd) → Q .normal a' w') l a) : (Code.region id l.toArray false).wp P Q a x0.wd :=
  wp_region_lit (wpList_of_quiet (C := fun w' => ∃ x : Ext W, w' = x.wd) (fun _ w' hw h => h w' hw) l a x0.wd ⟨x0, rfl⟩ h)
/-- A callee's contract, met in a world of the class. -/
theorem ext_of {P : Program} {f : FuncId} {args : Array Value} {W : World} {v : Value} (x : Ext W) (h : Calls P f args x.wd fun e w' => e = .returned v ∧ Below x.wd.heap.size x.wd w') :
    Calls P f args x.wd fun e w'' => e = .returned v ∧ ∃ y : Ext W, w'' = y.wd := h.mono fun _ w' ⟨he, hb⟩ => ⟨he, Ext.mk (below_call x.low hb), rfl⟩
theorem ext_of_same {P : Program} {f : FuncId} {args : Array Value} {W : World} {v : Value} (x : Ext W) (h : Calls P f args x.wd fun e w' => e = .returned v ∧ x.wd = w') :
    Calls P f args x.wd fun e w'' => e = .returned v ∧ ∃ y : Ext W, w'' = y.wd := h.mono fun _ w' ⟨he, hb⟩ => ⟨he, x, hb.symm⟩
theorem ext_of_drew {P : Program} {f : FuncId} {args : Array Value} {W : World} {v : Value} (x : Ext W) (h : Calls P f args x.wd fun e w' => e = .returned v ∧ ∃ n, w' = x.wd.drewN n) :
    Calls P f args x.wd fun e w'' => e = .returned v ∧ ∃ y : Ext W, w'' = y.wd := h.mono fun _ w' ⟨he, n, hb⟩ => ⟨he, Ext.mk (below_drewN x.low n), hb⟩
/-- What a box is in the class. -/
theorem Box.ext {W : World} {n : Nat} {cs : Array Value} {t : TypeId} (h : Box W n cs t) (i : Nat) : ∀ x : Ext W, x.wd.cell? ⟨n, i, none⟩ = cs[i]? := fun x => (h.later x.low).cell i
end Go.Proofs.YtglkgmijhdkhpaaDoor
