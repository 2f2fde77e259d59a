/-
  APPEND, AND WHAT THE ELDER SLICE READS behind it: world lemmas that name no program.
-/
import Derived.Test.YtglkgmijhdkhpaaGreatDoorHt3
set_option linter.unusedVariables false
namespace Go.Proofs.YtglkgmijhdkhpaaGreatDoor
open Go.RowKit

/-- Behind an append, the slice that was appended to still owns its row: its block was grown in place, or left. -/
theorem elder_owns {P : Program} (w : World) (base : Nat) (t ty e : TypeId) (i : TypeInfo) (z : Value) (size bytes : Nat) (ht : P.underlying t = some (.slice e)) (hi : P.info? e = some i) (hz : i.zero = some z)
    (hsize : i.size = size) (hby : i.bytes = bytes) (hzs : z.cells.size = size) (hsz : 0 < size)
    (v : Value) (n : Nat) (xs : List Value) (hown : w.ownsRow base e size v n xs)
    (a : Addr) (m c : Nat) (news : List Value) (hl : news.length = m * size) (hnews : ∀ j u, news[j]? = some u → w.cell? (a.add j) = some u) (h1 : ∀ u ∈ news, u.oneCell' = true)
    (h63 : n + m ≤ maxLen) (hbytes : (n + m) * bytes ≤ 140737488355328)
    {g cap : Nat} {w' : World} (hr : (Builtin.append_ #[t, t] ty #[v, .slice (some a) m c]).run P w = .ok (.slice (some ⟨g, 0, none⟩) (n + m) cap) w')
    (hnew : w'.ownsRow base e size (.slice (some ⟨g, 0, none⟩) (n + m) cap) (n + m) (xs ++ news)) : w'.ownsRow base e size v n xs := by
  subst hsize
  subst hby
  obtain ⟨hxl, hv⟩ := id hown
  rcases hv with ⟨rfl, rfl⟩ | ⟨g0, cap0, cur, rfl, hbg, hg, hnc, hcm, hcs, htake⟩
  · exact ⟨hxl, .inl ⟨rfl, rfl⟩⟩
  · have hsmall : n + m ≤ 9223372036854775807 := by simp only [maxLen] at h63; omega
    by_cases hroom : n + m ≤ cap0
    · have hfit : n * i.size + news.length ≤ cur.size := by rw [hl, hcs, ← Nat.add_mul]; exact Nat.mul_le_mul_right _ hroom
      have hr2 := run_append_room (P := P) w t ty e i ht hi g0 n cap0 cur hg a m c news hl hnews h1 hroom hfit
      rw [hr2] at hr
      simp only [Result.ok.injEq, Value.slice.injEq, Option.some.injEq, Addr.mk.injEq, and_true, true_and] at hr
      obtain ⟨⟨rfl, rfl⟩, -⟩ := hr
      refine ⟨hxl, .inr ?_⟩
      rcases hnew.2 with ⟨hbad, _⟩ | ⟨g2, cap2, cur2, hv2, hb2, hh2, hn2, hm2, hs2, ht2⟩
      · simp at hbad
      · simp only [Value.slice.injEq, Option.some.injEq, Addr.mk.injEq, and_true, true_and] at hv2
        obtain ⟨rfl, rfl⟩ := hv2
        refine ⟨g0, cap0, cur2, rfl, hb2, hh2, hnc, hcm, hs2, ?_⟩
        have h3 : (cur2.toList.take ((n + m) * i.size)).take (n * i.size) = cur2.toList.take (n * i.size) := by
          rw [List.take_take, Nat.min_eq_left (Nat.mul_le_mul_right _ (by omega))]
        rw [← h3, ht2, ← hxl, List.take_left]
    · have holds : ∀ j u, xs[j]? = some u → w.cell? ((⟨g0, 0, none⟩ : Addr).add j) = some u := hown.cells (g := g0) rfl
      have hr2 := run_append_grow (P := P) w t ty e i z ht hi hz ⟨g0, 0, none⟩ n cap0 xs hxl holds a m c news hl hnews (by omega) (by omega) (growslice_fits (by omega) hbytes)
      rw [hr2] at hr
      simp only [Result.ok.injEq] at hr
      obtain ⟨-, rfl⟩ := hr
      exact World.ownsRow.alloc (w := w.drew) hown _

section
variable {α : Type} {k : Nat} {row : α → List Value} {B B' : Nat} {w w' : World} {v : Value} {l : List α}

/-- 'out = append(s, l2...)', s an owned slice, l2 rows that lie at an address: what it tells, what s reads then, what else stays. -/
theorem wpList_append_keep {P : Program} (w : World) {ops : Array Oper} {rest : List Oper} {o : Oper} {a : Act} {Q : Exit → Act → World → Prop} (hgd : o.guard = none) (s y : Operand) (t : TypeId)
    (ho : o.op = .call { callee := .builtin .append, args := #[s, y], argTypes := #[t, t] })
    (base : Nat) (e : TypeId) (z : Value) (k bytes : Nat) (ht : P.underlying t = some (.slice e)) (hinfo : (P.info? e).map (fun i => (i.zero, i.size, i.bytes)) = some (some z, k, bytes)) (hzs : z.cells.size = k) (hk0 : 0 < k)
    (row : α → List Value) (hrow : ∀ x, (row x).length = k) (hone : ∀ x, ∀ u ∈ row x, u.oneCell' = true)
    (l : List α) (v : Value) (hs : a.eval s = v) (hown : Own k row e base w v l) (l2 : List α) (ad : Addr) (c : Nat) (hy : a.eval y = .slice (some ad) l2.length c)
    (hnews : ∀ j u, (l2.flatMap row)[j]? = some u → w.cell? (ad.add j) = some u) (hm : 0 < l2.length)
    (h63 : l.length + l2.length ≤ maxLen) (hbytes : (l.length + l2.length) * bytes ≤ 140737488355328) (hbase : base ≤ w.heap.size)
    (h : ∀ g cap w', Own k row e base w' (.slice (some ⟨g, 0, none⟩) (l.length + l2.length) cap) (l ++ l2) → Own k row e base w' v l → Below base w w' → (∀ b, b < w.heap.size → some b ≠ v.ownBlock → w'.heap[b]? = w.heap[b]?) →
      (v.ownBlock = some g ∨ g = w.heap.size) → g < w'.heap.size → w.heap.size ≤ w'.heap.size → wpList P ops Q rest (a.put o.dst (.slice (some ⟨g, 0, none⟩) (l.length + l2.length) cap)) w') :
    wpList P ops Q (o :: rest) a w := by
  obtain ⟨i, hi, hz, hsz, hby⟩ := info_parts hinfo
  refine wpList_plain hgd fun K hK => ?_
  have hl : (l2.flatMap row).length = l2.length * k := flat_length hrow l2
  have h1 : ∀ u ∈ l2.flatMap row, u.oneCell' = true := by
    intro u hu
    obtain ⟨x, _, hx⟩ := List.mem_flatMap.1 hu
    exact hone x u hx
  obtain ⟨g, cap, w', hr, h2, h3, h4, h5⟩ := run_append_lies (P := P) w t o.type base e i z k bytes ht hi hz hsz hby hzs hk0 v l.length (l.flatMap row) hown ad l2.length c (l2.flatMap row) hl hnews h1 hm h63 hbytes hbase w.heap.size rfl
  have h6 := elder_owns (P := P) w base t o.type e i z k bytes ht hi hz hsz hby hzs hk0 v l.length (l.flatMap row) hown ad l2.length c (l2.flatMap row) hl hnews h1 h63 hbytes hr h2
  have hb : ∀ g, v.ownBlock = some g → base ≤ g := fun g hg => (World.ownsRow.lt hown g hg).1
  unfold Oper.wp execOp
  simp only [ho, resolve, invoke, builtin, Sem.run_bind, Sem.run_pure, Result.andThen_ok, List.map_toArray, List.map_cons, List.map_nil, hs, hy, hr]
  exact hK _ _ (h g cap w' (by unfold Own; rw [List.flatMap_append, List.length_append]; exact h2) h6 ((Below.refl base w).grown h3 hbase hb) (fun b hb' hne => h3.block b hb' hne) h4 h5 h3.size)

/-- 'out = append(s, x)', x a row of k cells that lies in the newest block. -/
theorem wpList_append_keep1 {P : Program} (w0 : World) {ops : Array Oper} {rest : List Oper} {o : Oper} {a : Act} {Q : Exit → Act → World → Prop} (hgd : o.guard = none) (s y : Operand) (t : TypeId)
    (ho : o.op = .call { callee := .builtin .append, args := #[s, y], argTypes := #[t, t] })
    (base : Nat) (e : TypeId) (z : Value) (k bytes : Nat) (ht : P.underlying t = some (.slice e)) (hinfo : (P.info? e).map (fun i => (i.zero, i.size, i.bytes)) = some (some z, k, bytes)) (hzs : z.cells.size = k) (hk0 : 0 < k)
    (row : α → List Value) (hrow : ∀ x, (row x).length = k) (hone : ∀ x, ∀ u ∈ row x, u.oneCell' = true)
    (l : List α) (v : Value) (hs : a.eval s = v) (hown : Own k row e base w0 v l) (x : α) (cells : Array Value) (hcells : cells = (row x).toArray) (e' : TypeId) (n0 : Nat) (hy : a.eval y = .slice (some ⟨n0, 0, none⟩) 1 1) (hn0 : n0 = w0.heap.size)
    (hlen : l.length + 1 ≤ 4294967296) (hbytes : bytes ≤ 4096) (hbase : base ≤ w0.heap.size)
    (h : ∀ g cap w', Own k row e base w' (.slice (some ⟨g, 0, none⟩) (l.length + 1) cap) (l ++ [x]) → Own k row e base w' v l → Below base w0 w' → (∀ b, b < w0.heap.size → some b ≠ v.ownBlock → w'.heap[b]? = w0.heap[b]?) →
      (v.ownBlock = some g ∨ w0.heap.size < g) → g < w'.heap.size → w0.heap.size < w'.heap.size → wpList P ops Q rest (a.put o.dst (.slice (some ⟨g, 0, none⟩) (l.length + 1) cap)) w') :
    wpList P ops Q (o :: rest) a (w0.alloc (.cells cells e')) := by
  subst hcells
  subst hn0
  refine wpList_append_keep (w0.alloc (.cells (row x).toArray e')) hgd s y t ho base e z k bytes ht hinfo hzs hk0 row hrow hone l v hs (hown.alloc _) [x] ⟨w0.heap.size, 0, none⟩ 1 hy ?_ (by simp) (by unfold maxLen; simp; omega) ?_ (by simp; omega) ?_
  · intro j u hu
    rw [Addr.add_lit, Nat.zero_add, World.cell?_alloc_new]
    simpa using hu
  · calc (l.length + [x].length) * bytes ≤ 4294967296 * 4096 := Nat.mul_le_mul (by simpa using hlen) hbytes
      _ ≤ 140737488355328 := by omega
  · intro g cap w' p1 p2 p3 p4 p5 p6 p7
    simp only [List.length_singleton] at p1 ⊢
    simp only [World.size_alloc] at p4 p5 p7
    exact h g cap w' p1 p2 (((Below.refl base w0).alloc hbase _).trans p3) (fun b hb hne => (p4 b (by omega) hne).trans (Below.heap_alloc w0 _ b hb)) (p5.imp id fun h => by omega) p6 (by omega)
end
end Go.Proofs.YtglkgmijhdkhpaaGreatDoor
