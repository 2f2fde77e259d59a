/-
  WORLD LEMMAS that name no program: the end of an owned row cleared; rows of an owned slice written whole.
-/
import Derived.Test.YtglkgmijhdkhpaaDoorHa20
import Derived.Lib.SliceRun
import Derived.Laws.IdiomCopy
set_option linter.unusedVariables false
namespace Go.Proofs.YtglkgmijhdkhpaaDoor
open Go.RowKit

theorem below_grown_own {base g : Nat} {w w' : World} (h : w.grownBy w' (some g)) (hg : base ≤ g) (hB : base ≤ w.heap.size) : Below base w w' := (Below.refl base w).grown h hB (fun k e => by cases e; exact hg)
theorem ownsRow_setCells {base e size g n cap : Nat} : ∀ (vs : List Value) (o : Nat) (w : World) (xs : List Value), w.ownsRow base e size (.slice (some ⟨g, 0, none⟩) n cap) n xs →
    ∃ ys, (w.setCells g o vs).ownsRow base e size (.slice (some ⟨g, 0, none⟩) n cap) n ys ∧ ys.take o = xs.take o ∧ Below base w (w.setCells g o vs)
  | [], o, w, xs, h => ⟨xs, h, rfl, Below.refl _ _⟩
  | v :: r, o, w, xs, h => by
    have hs := World.ownsRow.stored h o v
    have hlt := World.ownsRow.lt h g rfl
    obtain ⟨ys, h1, h2, h3⟩ := ownsRow_setCells r (o + 1) _ _ hs.1
    refine ⟨ys, h1, ?_, (below_grown_own hs.2 hlt.1 (by omega)).trans h3⟩
    have h4 := congrArg (List.take o) h2
    rw [List.take_take, List.take_take, Nat.min_eq_left (by omega), List.take_set_of_le (by omega)] at h4
    exact h4
theorem ownsRow_cut {base e size g n m cap : Nat} {w : World} {xs : List Value} (h : w.ownsRow base e size (.slice (some ⟨g, 0, none⟩) n cap) n xs) (hm : m ≤ n) : w.ownsRow base e size (.slice (some ⟨g, 0, none⟩) m cap) m (xs.take (m * size)) := by
  have hle : m * size ≤ n * size := Nat.mul_le_mul_right _ hm
  refine ⟨by rw [List.length_take, h.1]; omega, ?_⟩
  rcases h.2 with ⟨h', _⟩ | ⟨g', cap', cur, h', hb, hg, hnc, hcm, hcs, htake⟩
  · simp at h'
  · simp only [Value.slice.injEq, Option.some.injEq, Addr.mk.injEq, and_true, true_and] at h'
    obtain ⟨rfl, rfl⟩ := h'
    exact .inr ⟨g, cap, cur, rfl, hb, hg, by omega, hcm, hcs, by rw [← htake, List.take_take, Nat.min_eq_left hle]⟩
section
variable {α : Type} {k : Nat} {row : α → List Value} {e : TypeId} {base : Nat} {w : World} {l : List α}
theorem flat_take (hrow : ∀ x, (row x).length = k) : ∀ (l : List α) (i : Nat), (l.flatMap row).take (i * k) = (l.take i).flatMap row := by
  intro l
  induction l with
  | nil => intro i; simp
  | cons x l ih =>
    intro i
    cases i with
    | zero => simp
    | succ i =>
      rw [List.take_succ_cons, List.flatMap_cons, List.flatMap_cons, Nat.succ_mul, List.take_append, hrow, List.take_of_length_le (by rw [hrow]; omega), Nat.add_sub_cancel, ih]
/-- 'clear(s[i:])' of an owned slice. -/
theorem own_clear {P : Program} {t ty : TypeId} {z : Value} {g n cap i : Nat} (hrow : ∀ x, (row x).length = k) (ht : P.underlying t = some (.slice e)) (hv : ∀ w, (zeroValue e).run P w = .ok z w) (hz : z.cells.size = k) (h1 : ∀ u ∈ z.cells, u.oneCell' = true)
    (h : Own k row e base w (.slice (some ⟨g, 0, none⟩) n cap) l) (hi : i < n) :
    ∃ w', (Builtin.clear_ #[t] ty #[.slice (some ⟨g, i * k, none⟩) (n - i) (cap - i)]).run P w = .ok (.tuple #[]) w' ∧ Own k row e base w' (.slice (some ⟨g, 0, none⟩) i cap) (l.take i) ∧ Below base w w' := by
  have hn : n = l.length := by
    obtain ⟨A, c, hv⟩ := h.len
    simp only [Value.slice.injEq] at hv
    exact hv.2.1
  have hown : w.ownsRow base e k (.slice (some ⟨g, 0, none⟩) n cap) n (l.flatMap row) := by subst hn; exact h
  obtain ⟨zs, hzs⟩ : ∃ zs, zs = (Builtin.zeroCells z.cells (n - i)).toList := ⟨_, rfl⟩
  have hzl : zs.length = (n - i) * k := by rw [hzs]; simp [Builtin.zeroCells, hz]
  have hz1 : ∀ v ∈ zs, v.oneCell' = true := by
    intro v hv
    rw [hzs] at hv
    simp only [Builtin.zeroCells, Array.toList_map, Array.toList_range, List.mem_map, List.mem_range] at hv
    obtain ⟨j, hj, rfl⟩ := hv
    have hk : j % z.cells.size < z.cells.size := Nat.mod_lt _ (by
      rcases Nat.eq_zero_or_pos z.cells.size with h0 | h0
      · rw [h0] at hj; simp at hj
      · exact h0)
    rw [getElem!_pos z.cells _ hk]
    exact h1 _ (Array.getElem_mem hk)
  obtain ⟨g', cap', cur, hv', hb, hg, hnc, hcm, hcs, htake⟩ : ∃ g' cap' cur, Value.slice (some ⟨g, 0, none⟩) n cap = .slice (some ⟨g', 0, none⟩) n cap' ∧ base ≤ g' ∧ w.heap[g']? = some (.cells cur e (0, 0)) ∧ n ≤ cap' ∧ cap' ≤ maxLen ∧ cur.size = cap' * k ∧ cur.toList.take (n * k) = l.flatMap row := by
    rcases hown.2 with ⟨h', _⟩ | h'
    · simp at h'
    · exact h'
  simp only [Value.slice.injEq, Option.some.injEq, Addr.mk.injEq, and_true, true_and] at hv'
  obtain ⟨rfl, rfl⟩ := hv'
  have hcell : ∀ o, o < cap * k → (w.cell? ⟨g, o, none⟩).isSome = true := by
    intro o ho
    simp [World.cell?, hg, hcs, ho]
  have hin : i * k + (n - i) * k = n * k := by rw [← Nat.add_mul]; congr 1; omega
  have hnk : n * k ≤ cap * k := Nat.mul_le_mul_right _ hnc
  have hst := run_storeCells_cells (P := P) g (i * k) zs 0 w (by intro j hj; simp at hj ⊢; exact hcell _ (by omega)) (by intro j hj; simp [World.frozen?, hg]) hz1
  simp only [Nat.add_zero] at hst
  obtain ⟨ys, r1, r2, r3⟩ := ownsRow_setCells zs (i * k) w _ hown
  refine ⟨_, ?_, ?_, r3⟩
  · obtain ⟨m, hm⟩ : ∃ m, n - i = m + 1 := ⟨n - i - 1, by omega⟩
    rw [hzs, hm] at hst
    rw [hm]
    simp [Builtin.clear_, run_underlying ht, hv, hst, hzs, hm]
  · have := ownsRow_cut r1 (Nat.le_of_lt hi)
    rw [r2, flat_take hrow] at this
    unfold Own
    rw [List.length_take, Nat.min_eq_left (by omega)]
    exact this
end
end Go.Proofs.YtglkgmijhdkhpaaDoor
