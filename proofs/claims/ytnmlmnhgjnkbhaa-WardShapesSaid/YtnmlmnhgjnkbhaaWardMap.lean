/-
  A MAP OF WANTS BY THEIR BLOCKS, in memory: what is looked up, stored, deleted, which keys there are. No program is named.
-/
import Derived.Test.YtnmlmnhgjnkbhaaWardMath2
import Derived.Maps.OwnSet
import Derived.Maps.OwnOps
import Derived.Lib.SlKeysI
set_option linter.unusedVariables false
namespace Go.Proofs.Ytnmlmnhgjnkbhaa
open Go.RowKit Go.Maps

/-- How a want reads as a map's element. -/
def wntD (x : Wnt) : DataW Unit := .agg [.lit (.int .i64 x.blk), .lit (.int .i64 x.knd), .lit (.int .i64 x.num)]
def wntV (x : Wnt) : Value := .agg #[.int .i64 x.blk, .int .i64 x.knd, .int .i64 x.num]
def wntC (l : List Value) : Option (DataW Unit × List MemPlace) := match l with
  | [.int .i64 a, .int .i64 b, .int .i64 c] => some (wntD ⟨a, b, c⟩, [])
  | _ => none
def wntE (v : Value) : Option (DataW Unit × List MemPlace) := match v with
  | .agg cs => wntC cs.toList
  | _ => none
theorem wntE_mk (x : Wnt) : wntE (wntV x) = some (wntD x, []) := rfl
theorem wntC_inv {l : List Value} {z : DataW Unit × List MemPlace} (h : wntC l = some z) : ∃ x : Wnt, l = [.int .i64 x.blk, .int .i64 x.knd, .int .i64 x.num] ∧ z = (wntD x, []) := by
  unfold wntC at h
  split at h
  · rename_i a b c
    injection h with h
    exact ⟨⟨a, b, c⟩, rfl, h.symm⟩
  · cases h
theorem wntD_inj {x y : Wnt} (h : wntD x = wntD y) : x = y := by
  unfold wntD at h
  simp at h
  exact wnt_ext h.1 h.2.1 h.2.2
theorem wntE_inv {v : Value} {y : Wnt} {ps : List MemPlace} (h : wntE v = some (wntD y, ps)) : v = wntV y := by
  unfold wntE at h
  split at h
  · rename_i cs
    obtain ⟨x, h1, h2⟩ := wntC_inv h
    have hxy : y = x := wntD_inj (congrArg Prod.fst h2)
    subst hxy
    have : cs = #[.int .i64 y.blk, .int .i64 y.knd, .int .i64 y.num] := by
      apply Array.ext'
      exact h1
    rw [this]; rfl
  · cases h
def J64 (x : Int) : Prop := -9223372036854775808 ≤ x ∧ x ≤ 9223372036854775807
theorem j64_wf {n : Int} (h : J64 n) : (Lit.int .i64 n).wf = true := by
  unfold J64 at h
  simp [Lit.wf]
  exact h

section
variable {P : Program} {K : TypeId} {w : World} {b n : Nat} {f : WMap}
/-- Block b is the map f, of at most n wants. -/
def MapAt (P : Program) (K : TypeId) (w : World) (b n : Nat) (f : WMap) : Prop :=
  ∃ D : DataW Unit, w.ownsMap P K wntE b n D ∧ (∀ m, Maps.has D (.int .i64 m) = (f m).isSome) ∧ ∀ m x, f m = some x → ∀ z, D.atKey (.int .i64 m) z = wntD x
theorem MapAt.made (w : World) (P : Program) (K : TypeId) : MapAt P K (w.alloc (.map #[] 0)) w.heap.size 0 fun _ => none :=
  ⟨.map [], World.ownsMap_made _ _ _ _, fun m => rfl, fun m x h => by cases h⟩
theorem MapAt.lt (h : MapAt P K w b n f) : b < w.heap.size := by obtain ⟨D, h1, -⟩ := h; exact h1.lt
theorem MapAt.stay {w' : World} (h : MapAt P K w b n f) (hb : w'.heap[b]? = w.heap[b]?) : MapAt P K w' b n f := by
  obtain ⟨D, ⟨es, clock, h1, h2⟩, h3⟩ := h
  exact ⟨D, ⟨es, clock, hb.trans h1, h2⟩, h3⟩
theorem MapAt.later {w' : World} (h : MapAt P K w b n f) (hb : Below w.heap.size w w') : MapAt P K w' b n f := h.stay (hb.block b h.lt)
theorem MapAt.more {n' : Nat} (h : MapAt P K w b n f) (hn : n ≤ n') : MapAt P K w b n' f := by obtain ⟨D, h1, h2⟩ := h; exact ⟨D, h1.mono hn, h2⟩
variable (hk : P.underlying K = some (.int .i64))
include hk
theorem MapAt.store {t e : TypeId} (h : MapAt P K w b n f) (ht : P.underlying t = some (.map K e)) (hn : n < maxLen) (x : Wnt) (hx : J64 x.blk) :
    ∃ w', (Instr.mapUpdate t (.map (some b)) (.int .i64 x.blk) (wntV x)).run P w = .ok () w' ∧ MapAt P K w' b (n + 1) (f.upd x) ∧ w.mapTurned w' b := by
  obtain ⟨D, h1, h2, h3⟩ := h
  obtain ⟨w', r1, r2, r3⟩ := h1.store (int_keyed hk) ht hn (keyOf_int_mk hk (j64_wf hx)) (wntE_mk x)
  have hD := h1.isMap
  have hkl : WideAt.IsKeyLit (.int .i64 x.blk) := (int_keyed hk).key (keyOf_int_mk hk (j64_wf hx))
  refine ⟨w', r1, ⟨_, r2, fun m => ?_, fun m y hy z => ?_⟩, r3⟩
  · unfold WMap.upd
    by_cases hm : m = x.blk
    · subst hm; rw [has_put_same hD hkl, if_pos rfl]; rfl
    · rw [has_put_other (by simpa using hm), if_neg hm]; exact h2 m
  · unfold WMap.upd at hy
    by_cases hm : m = x.blk
    · subst hm
      rw [if_pos rfl] at hy
      injection hy with hy
      subst hy
      exact atKey_put_same hD hkl _ _
    · rw [if_neg hm] at hy
      rw [atKey_put_other (by simpa using hm)]
      exact h3 m y hy z
theorem MapAt.delete {t e : TypeId} (h : MapAt P K w b n f) (ht : P.underlying t = some (.map K e)) (x : Int) (hx : J64 x) (ty : TypeId) :
    ∃ w', (Builtin.delete_ #[t, K] ty #[.map (some b), .int .i64 x]).run P w = .ok (.tuple #[]) w' ∧ MapAt P K w' b n (f.del x) ∧ w.mapTurned w' b := by
  obtain ⟨D, h1, h2, h3⟩ := h
  obtain ⟨w', r1, r2, r3⟩ := h1.drop (int_keyed hk) ht (keyOf_int_mk hk (j64_wf hx)) ty
  refine ⟨w', r1, ⟨_, r2, fun m => ?_, fun m y hy z => ?_⟩, r3⟩
  · unfold WMap.del
    by_cases hm : m = x
    · subst hm; rw [has_del_same, if_pos rfl]; rfl
    · rw [has_del_other (by simpa using hm), if_neg hm]; exact h2 m
  · unfold WMap.del at hy
    by_cases hm : m = x
    · rw [if_pos hm] at hy; cases hy
    · rw [if_neg hm] at hy
      rw [atKey_del_other (by simpa using hm)]
      exact h3 m y hy z
theorem MapAt.look {t e : TypeId} (h : MapAt P K w b n f) (ht : P.underlying t = some (.map K e)) (hz : (zeroValue e).run P w = .ok (wntV ⟨0, 0, 0⟩) w) (x : Int) (hx : J64 x) :
    (Instr.lookup t (.map (some b)) (.int .i64 x) true).run P w = .ok (.tuple #[wntV ((f x).getD ⟨0, 0, 0⟩), .bool (f x).isSome]) w ∧ (Instr.lookup t (.map (some b)) (.int .i64 x) false).run P w = .ok (wntV ((f x).getD ⟨0, 0, 0⟩)) w := by
  obtain ⟨D, h1, h2, h3⟩ := h
  have hv : ∀ v ps, wntE v = some (D.atKey (.int .i64 x) (wntD ⟨0, 0, 0⟩), ps) → v = wntV ((f x).getD ⟨0, 0, 0⟩) := by
    intro v ps hv
    cases hf : f x with
    | some y =>
      rw [h3 x y hf] at hv
      exact wntE_inv hv
    | none =>
      have : Maps.has D (.int .i64 x) = false := by rw [h2, hf]; rfl
      rw [atKey_of_not_has this] at hv
      exact wntE_inv hv
  constructor
  · obtain ⟨v, ps, r1, r2⟩ := h1.look_ok (int_keyed hk) ht hz (wntE_mk ⟨0, 0, 0⟩) (keyOf_int_mk hk (j64_wf hx))
    rw [hv v ps r2, h2] at r1
    exact r1
  · obtain ⟨v, ps, r1, r2⟩ := h1.lookup (int_keyed hk) ht hz (wntE_mk ⟨0, 0, 0⟩) (keyOf_int_mk hk (j64_wf hx))
    rw [hv v ps r2] at r1
    exact r1
/-- The keys, in whatever order they come, sorted. -/
theorem MapAt.keys {D : DataW Unit} {ss : List Int} (h : w.ownsMap P K wntE b n D) (h2 : ∀ m, Maps.has D (.int .i64 m) = (f m).isSome) (hs : ss.Perm (intKeys D)) :
    (ss.mergeSort fun x y => decide (x ≤ y)).Pairwise (· < ·) ∧ (∀ m, m ∈ ss.mergeSort (fun x y => decide (x ≤ y)) ↔ (f m).isSome = true) ∧ (∀ m ∈ ss.mergeSort (fun x y => decide (x ≤ y)), J64 m) ∧ ss.length ≤ n := by
  have tr : ∀ a b c : Int, decide (a ≤ b) = true → decide (b ≤ c) = true → decide (a ≤ c) = true := fun a b c h1 h2 => by simp only [decide_eq_true_eq] at *; omega
  have to : ∀ a b : Int, (decide (a ≤ b) || decide (b ≤ a)) = true := fun a b => by simp only [Bool.or_eq_true, decide_eq_true_eq]; omega
  obtain ⟨es, hD, hpw, -⟩ := h.entries (int_keyed hk)
  have hwf := intKeys_wf h hk
  obtain ⟨es', hD', hko⟩ := h.keysOf
  obtain rfl : es = es' := by rw [hD] at hD'; simpa using hD'
  have hkey : ∀ p ∈ es, ∃ x, p.1 = .int .i64 x := fun p hp => by
    obtain ⟨v, hv⟩ := hko p hp
    obtain ⟨x, _, hx, _⟩ := Maps.keyOf_i64 hk hv
    exact ⟨x, hx⟩
  have hsz := h.size_le
  subst hD
  have hnd : (intKeys (H := Unit) (.map es)).Nodup := by
    show (es.map fun p => intOf p.1).Nodup
    refine List.pairwise_map.2 (hpw.imp_of_mem fun {p q} hp' hq' hne e => hne ?_)
    obtain ⟨a, ha⟩ := hkey p hp'
    obtain ⟨b, hb⟩ := hkey q hq'
    rw [ha, hb] at e ⊢
    exact congrArg _ e
  have hmem : ∀ m, m ∈ intKeys (H := Unit) (.map es) ↔ (f m).isSome = true := fun m => by
    rw [← h2 m, has_eq, List.any_eq_true]
    show m ∈ es.map (fun p => intOf p.1) ↔ _
    rw [List.mem_map]
    constructor
    · rintro ⟨p, hp, rfl⟩
      obtain ⟨a, ha⟩ := hkey p hp
      exact ⟨p, hp, by rw [ha]; simp [Lit.sameKey, intOf]⟩
    · rintro ⟨p, hp, hs⟩
      obtain ⟨a, ha⟩ := hkey p hp
      rw [ha] at hs
      exact ⟨p, hp, by rw [ha]; simpa [Lit.sameKey, intOf] using hs⟩
  have hp : (ss.mergeSort fun x y => decide (x ≤ y)).Perm (intKeys (H := Unit) (.map es)) := (List.mergeSort_perm _ _).trans hs
  refine ⟨?_, fun m => (hp.mem_iff).trans (hmem m), fun m hm => ?_, ?_⟩
  · have h1 := List.pairwise_mergeSort tr to ss
    have h2 : (ss.mergeSort fun x y => decide (x ≤ y)).Nodup := hp.nodup_iff.2 hnd
    exact (List.Pairwise.and h1 h2).imp fun {a b} h => by have := h.1; simp only [decide_eq_true_eq] at this; have := h.2; omega
  · have := hwf m (hp.mem_iff.1 hm)
    simp [Lit.wf] at this
    exact this
  · have : ss.length = es.length := by rw [hs.length_eq]; show (es.map _).length = _; rw [List.length_map]
    rw [this]
    simpa [Maps.size] using hsz
end
end Go.Proofs.Ytnmlmnhgjnkbhaa
