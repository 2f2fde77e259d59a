/-
  Merged: ErrLead, ErrLead2, ErrLead3, Ent, Append.
-/
import Derived.Test.YthadfdpdillemaaDoorMo9
import Derived.Test.YthadfdpdillemaaDoorProg
import Derived.Test.YthadfdpdillemaaDoorMo5
import Derived.Test.YthadfdpdillemaaDoorMo6
import Derived.Test.YthadfdpdillemaaDoorMo2
import Derived.WalkLawsBesides
import Derived.Lib.Hide
/-
  errors.Is, errors.As at ErrLead's errors: contracts. Go's own text of them is walked.
-/
set_option linter.unusedVariables false
namespace Go.Proofs.YthadfdpdillemaaDoor.LeadE
open Go.RowKit Go.Extern.Stop Go.Stop Go.Extern
theorem eMethodComparable (v : Value) (w : World) : (Go.method 335 164 v "Comparable").run Tryd.prog w = .ok (158, v) w := by kernel_rfl
end Go.Proofs.YthadfdpdillemaaDoor.LeadE
/-
  errors.As at ErrLead's errors.
-/
set_option linter.unusedVariables false
set_option linter.unusedSimpArgs false
namespace Go.Proofs.YthadfdpdillemaaDoor.LeadE
open Go.RowKit Go.Extern.Stop Go.Stop Go.Extern

theorem parts150 (h : Value) (a : Addr) : ReflectliteValue.partsAny (.agg #[h, .pointer (some a), .int .u64 150]) = (do pure (some (← Rtype.ofHandle h, a, 150))) := rfl
theorem parts130 (h : Value) (a : Addr) : ReflectliteValue.partsAny (.agg #[h, .pointer (some a), .int .u64 130]) = (do pure (some (← Rtype.ofHandle h, a, 130))) := rfl
theorem parts386 (h : Value) (a : Addr) : ReflectliteValue.partsAny (.agg #[h, .pointer (some a), .int .u64 386]) = (do pure (some (← Rtype.ofHandle h, a, 386))) := rfl
section
variable (w : World)
end
end Go.Proofs.YthadfdpdillemaaDoor.LeadE
/-
  errors.As at ErrLead's errors: the contracts.
-/
set_option linter.unusedVariables false
namespace Go.Proofs.YthadfdpdillemaaDoor.LeadE
open Go.RowKit Go.Extern.Stop Go.Stop Go.Extern
set_option maxHeartbeats 400000 in
theorem as_nil (v : Value) (w : World) : Calls Tryd.prog 42 #[.nilIface, v] w fun e w' => e = .returned (.bool false) ∧ w = w' := by
  go_enter Tryd.func42, Tryd.ntmps42
  go_wp2
  go_ret
  exact ⟨rfl, rfl⟩

end Go.Proofs.YthadfdpdillemaaDoor.LeadE
/-
  THE PACKAGE entry, 1: members: contracts.
-/
set_option linter.unusedVariables false
namespace Go.Proofs.YthadfdpdillemaaDoor
open Go.RowKit

set_option maxHeartbeats 400000 in
theorem entryRight (l : List Int) (v : Value) (w : World) (h : Sl 1 i64Row w.heap.size w v l) :
    Calls Tryd.prog 30 #[v] w fun e w' => e = .returned (.bool (memRight l)) ∧ w = w' := by
  obtain ⟨A, cap, rfl, hlc, hcm, -, hA⟩ := h
  have hn : l.length ≤ 9223372036854775807 := by unfold maxLen at hcm; omega
  clear hcm
  go_enter Tryd.func30, Tryd.ntmps30
  go_wp2_with fail
  go_loop [3, 4, 7] (fun _ _ j => ∃ (k : Nat) (p : Int), k ≤ l.length ∧ j = .int .i64 k ∧ memFrom 0 l = memFrom p (l.drop k) ∧ (0 < k → l[k - 1]? = some p) ∧ (k = 0 → p = 0)) (fun _ _ j => l.length - (intOf j).toNat)
  case atStart => exact ⟨0, 0, by omega, rfl, by simp, by simp, by simp⟩
  case round =>
    obtain ⟨k, p, hk, rfl, hm, hp, h0⟩ := hrel
    by_cases hlt : k < l.length
    · obtain ⟨b, off, rfl, hb, hcell⟩ := hA (by intro h; subst h; simp at hlt)
      obtain ⟨x, hx⟩ : ∃ x, l[k]? = some x := ⟨_, List.getElem?_eq_getElem hlt⟩
      have c0 : w.cell? ⟨b, off + k, none⟩ = some (.int .i64 x) := by simpa using hcell k x hx 0 _ rfl
      have cp : 0 < k → w.cell? ⟨b, off + (k - 1), none⟩ = some (.int .i64 p) := fun h => by simpa using hcell (k - 1) p (hp h) 0 _ rfl
      have HM : Hid (memFrom 0 l = (decide (1 ≤ x ∧ x ≤ 7 ∧ p < x) && memFrom x (l.drop (k + 1)))) := by rw [hm, drop_at hx]; rfl
      have HX := Lib.hid hx
      have HE : Hid (l.isEmpty = false) := by cases l <;> first | rfl | simp at hlt
      have H0 := Lib.hid h0
      clear hcell hx hm hp h0
      go_wp2
      all_goals first
        | (go_roundw
           case rel => exact ⟨k + 1, x, by omega, by go_num, by rw [HM.out, show decide (1 ≤ x ∧ x ≤ 7 ∧ p < x) = true from decide_eq_true (by first | omega | (have := H0.out (by omega); omega))]; rfl, fun _ => HX.out, by omega⟩
           case measure => simp [intOf]; omega)
        | (go_ret
           exact ⟨ret_bool (by rw [memRight, HM.out, show decide (1 ≤ x ∧ x ≤ 7 ∧ p < x) = false from decide_eq_false (by omega)]; rfl), rfl⟩)
    · have : k = l.length := by omega
      subst this
      have HM := Lib.hid (show memFrom 0 l = true by rw [hm]; simp [memFrom])
      clear hm hp h0
      go_wp2
      go_ret
      exact ⟨ret_bool (by rw [memRight, HM.out]; cases l <;> simp), rfl⟩


end Go.Proofs.YthadfdpdillemaaDoor
/-
  'append(out, l...)' at a step of a region that draws: laws that name no program.
-/
set_option linter.unusedVariables false
namespace Go.Proofs.YthadfdpdillemaaDoor
open Go.RowKit

section
variable {α : Type} {P : Program}
/-- l a slice that reads as a list: nil, empty or not. -/
theorem wp_append_all {w : World} {o : Oper} {a : Act} {K : Act → World → Prop} {Q : Exit → Act → World → Prop} (s y : Operand) (t : TypeId)
    (ho : o.op = .call { callee := .builtin .append, args := #[s, y], argTypes := #[t, t] })
    (base : Nat) (e : TypeId) (z : Value) (k bytes : Nat) (ht : P.underlying t = some (.slice e)) (hinfo : (P.info? e).map (fun i => (i.zero, i.size, i.bytes)) = some (some z, k, bytes)) (hzs : z.cells.size = k) (hk0 : 0 < k)
    (row : α → List Value) (hrow : ∀ x, (row x).length = k) (hone : ∀ x, ∀ u ∈ row x, u.oneCell' = true)
    (l0 : List α) (v : Value) (hs : a.eval s = v) (hown : Own k row e base w v l0) (l : List α) (B : Nat) (vs : Value) (hsl : Sl k row B w vs l) (hy : a.eval y = vs)
    (h63 : l0.length + l.length ≤ 4294967296) (hbytes : bytes ≤ 4096) (hbase : base ≤ w.heap.size)
    (h : ∀ v' w', Own k row e base w' v' (l0 ++ l) → Below base w w' → w.heap.size ≤ w'.heap.size → (∀ g, g < w.heap.size → some g ≠ v.ownBlock → w'.heap[g]? = w.heap[g]?) → (v' = .slice none 0 0 → v = .slice none 0 0 ∧ l = []) → K (a.put o.dst v') w') : o.wp P a w K Q := by
  obtain ⟨i, hi, hz, hsz, hby⟩ := info_parts hinfo
  obtain ⟨A, cap, rfl, h1, h2, hN, hA⟩ := hsl
  cases A with
  | none =>
    have hc0 := hN rfl
    have hl : l = [] := List.eq_nil_of_length_eq_zero (by omega)
    subst hl; subst hc0
    have hrun := run_append_owned_none (P := P) (w := w) base t o.type e i k ht hi v l0.length (l0.flatMap row) hown
    unfold Oper.wp
    have hy' : a.eval y = .slice none 0 0 := hy
    simp [execOp, ho, resolve, invoke, builtin, hs, hy', hrun, Result.andThen]
    exact h v w (by simpa using hown) (Below.refl _ _) (Nat.le_refl _) (fun _ _ _ => rfl) (fun h => ⟨h, rfl⟩)
  | some ad =>
    refine wp_append_own w s y t ho base e i z k bytes ht hi hz hsz hby hzs hk0 v l0.length (l0.flatMap row) hs hown ad l.length cap (l.flatMap row) hy (flat_length hrow l) ?_ ?_ (by unfold maxLen; omega) ?_ hbase ?_
    · intro j u hu
      obtain ⟨i', x, j', e1, e2, rfl⟩ := flat_inv hrow l j u hu
      obtain ⟨b, off, hb, _, hc⟩ := hA (by rintro rfl; simp at e1)
      injection hb with hb
      subst hb
      rw [Addr.add_lit, ← Nat.add_assoc]
      exact hc i' x e1 j' u e2
    · intro u hu
      obtain ⟨x, _, hx⟩ := List.mem_flatMap.1 hu
      exact hone x u hx
    · calc (l0.length + l.length) * bytes ≤ 4294967296 * 4096 := Nat.mul_le_mul h63 hbytes
        _ ≤ 140737488355328 := by omega
    · intro v' w' h1 h2 h3
      have hb : ∀ g, v.ownBlock = some g → base ≤ g := fun g hg => (World.ownsRow.lt hown g hg).1
      refine h v' w' ?_ ((Below.refl base w).grown h2 hbase hb) h2.size (fun g hg hne => h2.block g hg hne) (fun hv => ?_)
      · unfold Own; rw [List.flatMap_append, List.length_append]; exact h1
      · obtain ⟨e1, e2⟩ := h3.1 hv
        exact ⟨e1, List.eq_nil_of_length_eq_zero e2⟩
theorem step_append_all {w : World} {ops : Array Oper} {o : Oper} {a : Act} {K : Act → World → Prop} {Q : Exit → Act → World → Prop} {E : Prop} (hgd : o.guard = none) (s y : Operand) (t : TypeId)
    (ho : o.op = .call { callee := .builtin .append, args := #[s, y], argTypes := #[t, t] })
    (base : Nat) (e : TypeId) (z : Value) (k bytes : Nat) (ht : P.underlying t = some (.slice e)) (hinfo : (P.info? e).map (fun i => (i.zero, i.size, i.bytes)) = some (some z, k, bytes)) (hzs : z.cells.size = k) (hk0 : 0 < k)
    (row : α → List Value) (hrow : ∀ x, (row x).length = k) (hone : ∀ x, ∀ u ∈ row x, u.oneCell' = true)
    (l0 : List α) (v : Value) (hs : a.eval s = v) (hown : Own k row e base w v l0) (l : List α) (B : Nat) (vs : Value) (hsl : Sl k row B w vs l) (hy : a.eval y = vs)
    (h63 : l0.length + l.length ≤ 4294967296) (hbytes : bytes ≤ 4096) (hbase : base ≤ w.heap.size)
    (h : ∀ v' w', Own k row e base w' v' (l0 ++ l) → Below base w w' → w.heap.size ≤ w'.heap.size → (∀ g, g < w.heap.size → some g ≠ v.ownBlock → w'.heap[g]? = w.heap[g]?) → (v' = .slice none 0 0 → v = .slice none 0 0 ∧ l = []) → K (a.put o.dst v') w') :
    if Region.wanted o (yielded ops a.tmps) = true then Oper.wp P o a w K Q else E := by
  have hw : Region.wanted o (yielded ops a.tmps) = true := by simp [Region.wanted, hgd]
  rw [if_pos hw]
  exact wp_append_all s y t ho base e z k bytes ht hinfo hzs hk0 row hrow hone l0 v hs hown l B vs hsl hy h63 hbytes hbase h
theorem step_append_any {w : World} {ops : Array Oper} {o : Oper} {a : Act} {K : Act → World → Prop} {Q : Exit → Act → World → Prop} {E : Prop} (hgd : o.guard = none) (s y : Operand) (t : TypeId)
    (ho : o.op = .call { callee := .builtin .append, args := #[s, y], argTypes := #[t, t] })
    (base : Nat) (e : TypeId) (z : Value) (k bytes : Nat) (ht : P.underlying t = some (.slice e)) (hinfo : (P.info? e).map (fun i => (i.zero, i.size, i.bytes)) = some (some z, k, bytes)) (hzs : z.cells.size = k) (hk0 : 0 < k)
    (row : α → List Value) (hrow : ∀ x, (row x).length = k) (hone : ∀ x, ∀ u ∈ row x, u.oneCell' = true)
    (l0 : List α) (v : Value) (hs : a.eval s = v) (hown : Own k row e base w v l0) (l : List α) (vs : Value) (hsl : ∃ B, Sl k row B w vs l) (hy : a.eval y = vs)
    (h63 : l0.length + l.length ≤ 4294967296) (hbytes : bytes ≤ 4096) (hbase : base ≤ w.heap.size)
    (h : ∀ v' w', Own k row e base w' v' (l0 ++ l) → Below base w w' → w.heap.size ≤ w'.heap.size → (∀ g, g < w.heap.size → some g ≠ v.ownBlock → w'.heap[g]? = w.heap[g]?) → (v' = .slice none 0 0 → v = .slice none 0 0 ∧ l = []) → K (a.put o.dst v') w') :
    if Region.wanted o (yielded ops a.tmps) = true then Oper.wp P o a w K Q else E := by
  obtain ⟨B, hsl⟩ := hsl
  exact step_append_all hgd s y t ho base e z k bytes ht hinfo hzs hk0 row hrow hone l0 v hs hown l B vs hsl hy h63 hbytes hbase h
end
/-- A block that is known whole, as a list of rows. -/
theorem Box.sl {α : Type} {row : α → List Value} {k : Nat} (hrow : ∀ x, (row x).length = k) {w : World} {n : Nat} {t : TypeId} (l : List α) {cs : Array Value} (h : Box w n cs t) (hcs : cs = (l.flatMap row).toArray) (hl : l.length ≤ maxLen) :
    Sl k row w.heap.size w (.slice (some ⟨n, 0, none⟩) l.length l.length) l := by
  refine ⟨_, _, rfl, Nat.le_refl _, hl, fun h => by simp at h, fun _ => ⟨n, 0, rfl, h.lt, fun i x hx j u hu => ?_⟩⟩
  rw [Nat.zero_add, h.cell, hcs]
  simpa using flat_at hrow l i x hx j u hu
end Go.Proofs.YthadfdpdillemaaDoor
