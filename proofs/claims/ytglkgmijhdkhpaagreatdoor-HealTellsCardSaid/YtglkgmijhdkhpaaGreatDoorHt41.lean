/-
  ARGUMENTS OPENED: what reads as data, within the row's reach, as integers, structs and lists. It names no program.
-/
import Derived.Test.YtglkgmijhdkhpaaGreatDoorHt40
import Derived.SizedLaws
set_option linter.unusedVariables false
namespace Go.Proofs.YtglkgmijhdkhpaaGreatDoor
open Go.ChangeShapes Go.WideShapes Go.ChangeAt Go.RowKit Go.Deep

section
variable {H : Type} {enc : TypeId × Value → H} {P : Program} {W : World}

/-- The cells read as a datum of type t, which is within the reach. -/
def RdB (enc : TypeId × Value → H) (P : Program) (W : World) (t : TypeId) (cs : List Value) : Prop :=
  ∃ n y, DataW.trod enc P W 0 (fun _ => true) true n t cs = some y ∧ ∀ m ∈ y.1.weights P t, m ≤ reachBytes

theorem RdB.int {t : TypeId} {c : Value} (ht : P.underlying t = some (.int .i64)) (h : RdB enc P W t [c]) : ∃ x : Int, c = .int .i64 x ∧ -9223372036854775808 ≤ x ∧ x ≤ 9223372036854775807 := by
  obtain ⟨n, y, h, -⟩ := h; exact one_int ht h
theorem RdB.u8 {t : TypeId} {c : Value} (ht : P.underlying t = some (.int .u8)) (h : RdB enc P W t [c]) : ∃ x : Int, c = .int .u8 x ∧ 0 ≤ x ∧ x ≤ 255 := by
  obtain ⟨n, y, h, -⟩ := h
  obtain ⟨x, hx, -, hw⟩ := DataW.trod_int ht h
  simp only [List.cons.injEq, and_true] at hx
  have : 0 ≤ x ∧ x ≤ 255 := by simpa [Lit.wf, IntKind.min, IntKind.max, IntKind.signed, IntKind.bits] using hw
  exact ⟨x, hx, this.1, this.2⟩
theorem RdB.bool {t : TypeId} {c : Value} (ht : P.underlying t = some .bool) (h : RdB enc P W t [c]) : ∃ x : Bool, c = .bool x := by
  obtain ⟨n, y, h, -⟩ := h; exact one_bool ht h

theorem weights_fld {ts : List TypeId} {ds : List (DataW H)} {j : Nat} {t : TypeId} {d : DataW H} (ht : ts[j]? = some t) (hd : ds[j]? = some d) (B : Nat) (h : ∀ m ∈ DataW.weightsEach P ts ds, m ≤ B) : ∀ m ∈ d.weights P t, m ≤ B :=
  fun m hm => h m (DataW.weights_mem_each ht hd m hm)

theorem RdB.fld {t : TypeId} {fs : Array Field} {cs : List Value} (hs : P.underlying t = some (.struct fs)) (h : RdB enc P W t cs) {i : Nat} {f : Field} (hf : fs[i]? = some f) :
    RdB enc P W f.type ((cs.drop f.offset).take (P.cellsOf f.type)) := by
  obtain ⟨n, y, h, hw⟩ := h
  obtain ⟨xs, n', -, hy, -, hlen, hg⟩ := DataW.trod_struct hs h
  have hi : i < xs.length := by rw [hlen]; exact (Array.getElem?_eq_some_iff.1 hf).1
  refine ⟨n', xs[i], (hg i f hf).trans (List.getElem?_eq_getElem hi), ?_⟩
  rw [hy] at hw
  simp only [DataW.weights, hs] at hw
  refine weights_fld (j := i) (ts := fs.toList.map (·.type)) (ds := xs.map (·.1)) ?_ ?_ _ hw
  · simp [hf]
  · rw [List.getElem?_map, List.getElem?_eq_getElem hi]; rfl
theorem RdB.fld1 {t : TypeId} {fs : Array Field} {cs : List Value} (hs : P.underlying t = some (.struct fs)) (h : RdB enc P W t cs) {i : Nat} {f : Field} {c : Value} (hf : fs[i]? = some f)
    (hone : P.cellsOf f.type = 1) (hc : cs[f.offset]? = some c) : RdB enc P W f.type [c] := by
  have h' := h.fld hs hf
  obtain ⟨hlt, rfl⟩ := List.getElem?_eq_some_iff.1 hc
  rw [hone, List.drop_eq_getElem_cons hlt] at h'
  exact h'
theorem RdB.len {t : TypeId} {fs : Array Field} {cs : List Value} (hs : P.underlying t = some (.struct fs)) (h : RdB enc P W t cs) : cs.length = P.cellsOf t := by
  obtain ⟨n, y, h, -⟩ := h
  obtain ⟨_, _, _, _, hl, _⟩ := DataW.trod_struct hs h
  exact hl

theorem weights_all {e : TypeId} {d : DataW H} : ∀ {ds : List (DataW H)}, d ∈ ds → ∀ m ∈ d.weights P e, m ∈ DataW.weightsAll P e ds
  | x :: ds, hd, m, hm => by
    simp only [DataW.weightsAll, List.mem_append]
    rcases List.mem_cons.1 hd with rfl | hd
    · exact .inl hm
    · exact .inr (weights_all hd m hm)

/-- A slice: a list, its elements read, its length within the reach. -/
theorem RdB.sl {α : Type} {row : α → List Value} {R : α → Prop} {k : Nat} {t e : TypeId} {v : Value} (ht : P.underlying t = some (.slice e)) (hsz : P.cellsOf e = k) (hk : 0 < k) (hb0 : 0 < P.bytesOf e)
    (helem : ∀ cs : List Value, cs.length = k → RdB enc P W e cs → ∃ x : α, row x = cs ∧ R x) (h : RdB enc P W t [v]) :
    ∃ l : List α, Sl k row W.heap.size W v l ∧ (∀ x ∈ l, R x) ∧ l.length ≤ 140737488351232 := by
  obtain ⟨fuel, y, hf, hw⟩ := h
  obtain ⟨A, len, cap, rfl⟩ := one_slice ht hf
  rcases open_slice ht hf with ⟨hcs, _⟩ | ⟨a, len', cap', m, n, D, Pl, hcs, hb, hlc, hm, hmm, hy, hi⟩
  · simp only [List.cons.injEq, and_true] at hcs
    cases hcs
    exact ⟨[], Sl.nil_ _ _ _ _, (fun x hx => by cases hx), by simp⟩
  · simp only [List.cons.injEq, and_true] at hcs
    cases hcs
    simp only [if_true] at hmm
    subst hy
    simp only [DataW.weights, ht, List.mem_cons, List.mem_append] at hw
    have hlen : len ≤ 140737488351232 := by
      have := hw _ (.inl rfl)
      simp only [List.length_map, List.length_range, reachBytes] at this
      have h2 : (len + (m - len)) * 1 ≤ (len + (m - len)) * P.bytesOf e := Nat.mul_le_mul_left _ hb0
      omega
    obtain ⟨l, hl, hq⟩ := list_of (α := α) (Q := fun i x => (∀ j u, (row x)[j]? = some u → W.cell? (a.add (i * k + j)) = some u) ∧ R x ∧ (row x).length = k) len (by
      intro i hlt
      obtain ⟨cs', hc, ht'⟩ := hi i (by omega)
      rw [hsz] at hc
      obtain ⟨_, hcl, hcell⟩ := World.cells?_some hc
      obtain ⟨x, hx, hr⟩ := helem cs' hcl ⟨n, _, ht', fun q hq => hw q (.inr (.inl (weights_all (d := D i) (List.mem_map.2 ⟨i, List.mem_range.2 hlt, rfl⟩) q hq)))⟩
      refine ⟨x, fun j u hu => ?_, hr, by rw [hx]; exact hcl⟩
      rw [hx] at hu
      have hj : j < k := by have := (List.getElem?_eq_some_iff.1 hu).1; omega
      have := hcell j hj
      rw [add_add] at this
      rw [this]; exact hu)
    refine ⟨l, ⟨some a, cap, by rw [hl], by omega, hm, fun h => by simp at h, fun hne => ?_⟩, fun x hx => ?_, by omega⟩
    · have h0 : 0 < l.length := by cases l with | nil => exact absurd rfl hne | cons _ _ => simp
      have hx0 := List.getElem?_eq_getElem h0
      obtain ⟨hc0, -, hr0⟩ := hq 0 _ hx0
      have hu0 := List.getElem?_eq_getElem (show 0 < (row (l[0]'h0)).length by omega)
      have hcell0 := hc0 0 _ hu0
      have hs : a.spot = none := by
        have h1 := spot_none hcell0
        simpa [Addr.add] using h1
      obtain ⟨ab, ao, ax⟩ := a
      simp only at hs
      subst hs
      refine ⟨ab, ao, rfl, ?_, fun i x hx j u hu => ?_⟩
      · have := World.block_lt_of_cell? _ _ hcell0
        simpa [Addr.add] using this
      · have := (hq i x hx).1 j u hu
        rw [Addr.add_lit, ← Nat.add_assoc] at this
        exact this
    · obtain ⟨i, hi'⟩ := List.getElem?_of_mem hx
      exact (hq i x hi').2.1

/-- Argument number j. -/
theorem RdB.arg {ts : List TypeId} {ds : List (DataW H)} (hsz : (DataW.weightsEach P ts ds).all (· ≤ reachBytes) = true) {j : Nat} {t : TypeId} {v : Value} {d : DataW H} {p : List MemPlace}
    (ht : ts[j]? = some t) (hd : ds[j]? = some d) (h : DataW.Trod enc P W 0 (fun _ => true) true t v d p) : RdB enc P W t v.cells.toList := by
  obtain ⟨fuel, hf⟩ := h
  exact ⟨fuel, (d, p), hf, fun m hm => by simpa using List.all_eq_true.1 hsz m (DataW.weights_mem_each ht hd m hm)⟩
/-- .. an integer, a truth, a slice, a struct. -/
theorem RdB.argInt {ts : List TypeId} {ds : List (DataW H)} (hsz : (DataW.weightsEach P ts ds).all (· ≤ reachBytes) = true) {j : Nat} {t : TypeId} {v : Value} {d : DataW H} {p : List MemPlace} {r : Reach} {b0 : Nat} (hu : P.underlying t = some (.int .i64))
    (hv : Value.okWide P W r b0 t v) (ht : ts[j]? = some t) (hd : ds[j]? = some d) (h : DataW.Trod enc P W 0 (fun _ => true) true t v d p) : RdB enc P W t [v] := by
  obtain ⟨x, rfl, -⟩ := open_int hu hv h
  simpa [Value.cells] using RdB.arg hsz ht hd h
theorem RdB.argBool {ts : List TypeId} {ds : List (DataW H)} (hsz : (DataW.weightsEach P ts ds).all (· ≤ reachBytes) = true) {j : Nat} {t : TypeId} {v : Value} {d : DataW H} {p : List MemPlace} {r : Reach} {b0 : Nat} (hu : P.underlying t = some .bool)
    (hv : Value.okWide P W r b0 t v) (ht : ts[j]? = some t) (hd : ds[j]? = some d) (h : DataW.Trod enc P W 0 (fun _ => true) true t v d p) : RdB enc P W t [v] := by
  obtain ⟨x, rfl, -⟩ := open_bool hu hv h
  simpa [Value.cells] using RdB.arg hsz ht hd h
theorem RdB.argSl {ts : List TypeId} {ds : List (DataW H)} (hsz : (DataW.weightsEach P ts ds).all (· ≤ reachBytes) = true) {j : Nat} {t e : TypeId} {v : Value} {d : DataW H} {p : List MemPlace} {r : Reach} {b0 : Nat} (hu : P.underlying t = some (.slice e))
    (hv : Value.okWide P W r b0 t v) (ht : ts[j]? = some t) (hd : ds[j]? = some d) (h : DataW.Trod enc P W 0 (fun _ => true) true t v d p) : RdB enc P W t [v] := by
  obtain ⟨A, len, cap, rfl⟩ := okWide_slice hu hv
  simpa [Value.cells] using RdB.arg hsz ht hd h
theorem RdB.argAgg {ts : List TypeId} {ds : List (DataW H)} (hsz : (DataW.weightsEach P ts ds).all (· ≤ reachBytes) = true) {j : Nat} {t : TypeId} {fs : Array Field} {v : Value} {d : DataW H} {p : List MemPlace} {r : Reach} {b0 : Nat} (hu : P.underlying t = some (.struct fs))
    (hv : Value.okWide P W r b0 t v) (ht : ts[j]? = some t) (hd : ds[j]? = some d) (h : DataW.Trod enc P W 0 (fun _ => true) true t v d p) : ∃ cs : List Value, v = .agg cs.toArray ∧ RdB enc P W t cs := by
  unfold Value.okWide at hv
  rw [hu] at hv
  obtain ⟨cs, rfl, -⟩ := hv
  exact ⟨cs.toList, by simp, by simpa [Value.cells] using RdB.arg hsz ht hd h⟩
end
end Go.Proofs.YtglkgmijhdkhpaaGreatDoor
