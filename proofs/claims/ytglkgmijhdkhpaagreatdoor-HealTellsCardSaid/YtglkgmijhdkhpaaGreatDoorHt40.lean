/-
  FROM A LAW's WALK TO ITS ROW: arguments opened to lists; the row's end out of 'Below'. No program is named here.
-/
import Derived.Test.YtglkgmijhdkhpaaGreatDoorHt3
import Derived.ProofKit
import Derived.OpenShut
import Derived.Deep.Slices
import Derived.Deep.Fields
import Derived.ChangeSame
import Derived.Carry
set_option linter.unusedVariables false
namespace Go.Proofs.YtglkgmijhdkhpaaGreatDoor
open Go.ChangeShapes Go.WideShapes Go.ChangeAt Go.RowKit Go.Deep

section
variable {H : Type} {enc : TypeId × Value → H} {P : Program}

theorem post_of_below {f : Func} {s : ChangeSpec} {apart fresh handsOn again : Bool} {W W' : World} {args : Array Value} {v : Value} {ds gs : List (DataW H)} {before pa pv : List MemPlace}
    (hW : DataW.Whole enc P f.params.toList s.vars apart W args.toList ds gs before)
    (hres : ∀ (b : Nat) (sp : Nat → Bool) (hd : Bool), DataW.TrodAll enc P W' b sp hd f.resultTypes.toList (v.resultList f.resultTypes.size) (s.fn H (ds ++ gs)).results [])
    (hargs : ∀ sp : Nat → Bool, (∀ p ∈ before, sp p.block = true) → DataW.TrodAll enc P W' 0 sp true f.params.toList args.toList (s.fn H (ds ++ gs)).args pa)
    (hvars : ∀ sp : Nat → Bool, (∀ p ∈ before, sp p.block = true) → DataW.TrodVars enc P W' sp s.vars (s.fn H (ds ++ gs)).vars pv)
    (hps : before = pa ++ pv) (hb : Below W.heap.size W W')
    (hok : ∀ (j : Nat) (t : TypeId) (r : Value), f.resultTypes[j]? = some t → (v.resultList f.resultTypes.size)[j]? = some r → Value.okWide P W' .any 0 t r) :
    s.post enc P f apart fresh handsOn again W args v W' := by
  have hlt : ∀ p ∈ before, p.block < W.heap.size := fun p hp => hW.lt p hp
  have hold : ∀ p ∈ before, (fun b => decide (b < W.heap.size)) p.block = true := fun p hp => by simpa using hlt p hp
  refine ⟨ds, gs, before, [], pa, pv, hW, hres _ _ _, hargs _ hold, hvars _ hold, World.keptBut_mono (fun p hp => ⟨hp, ?_⟩) (hb.frame (· ∈ before)), fun _ => ?_⟩
  · rw [hps, List.mem_append] at hp
    exact Or.inr hp
  · obtain ⟨_, _, _, _, _, hz, hn⟩ := hW
    refine ⟨hok, _, _, ([] ++ pa) ++ pv, ⟨[] ++ pa, pv, trodAll_append (hargs _ (fun _ _ => rfl)) (hres _ _ _), hvars _ (fun _ _ => rfl), rfl, ?_, ?_⟩, ?_⟩
    · intro b off hp
      have hin : MemPlace.cell b off ∈ before := by rw [hps]; simpa using hp
      rw [hb.frozen (hlt _ hin)]
      exact hz b off hin
    · intro ha
      have := hn ha
      rw [hps] at this
      simpa using this
    · intro p hp _
      rw [hps]
      simpa using hp

theorem trodAll_below (hl : laidOutB P = true) {W W' : World} (hb : Below W.heap.size W W') {sp : Nat → Bool} : ∀ (ts : List TypeId) (vs : List Value) (ds : List (DataW H)) (p : List MemPlace),
    (∀ t ∈ ts, P.readableRec t = true ∧ t < P.types.size) → DataW.TrodAll enc P W 0 (fun _ => true) true ts vs ds p → (∀ x ∈ p, x.block < W.heap.size) → (∀ x ∈ p, sp x.block = true) → DataW.TrodAll enc P W' 0 sp true ts vs ds p := by
  intro ts
  induction ts with
  | nil =>
    intro vs ds p _ h _ _
    cases vs <;> cases ds <;> simp_all [DataW.TrodAll]
  | cons t ts ih =>
    intro vs ds p ht h hlt hsp
    cases vs with
    | nil => simp [DataW.TrodAll] at h
    | cons v vs =>
      cases ds with
      | nil => simp [DataW.TrodAll] at h
      | cons d ds =>
        obtain ⟨p1, q1, h1, h2, rfl⟩ := h
        have ht' := ht t List.mem_cons_self
        exact ⟨p1, q1, WideElems.Trod_stays hl ht'.1 ht'.2 h1 (fun x hx => hb.same (hlt x (List.mem_append_left _ hx))) (fun x hx => hsp x (List.mem_append_left _ hx)),
          ih vs ds q1 (fun t' h' => ht t' (List.mem_cons_of_mem _ h')) h2 (fun x hx => hlt x (List.mem_append_right _ hx)) (fun x hx => hsp x (List.mem_append_right _ hx)), rfl⟩

/-- The end of a law's row: it returned true, and below the heap's old size nothing has turned. -/
theorem law_post (hl : laidOutB P = true) {f : Func} {s : ChangeSpec} {apart fresh handsOn again : Bool} {W W' : World} {args : Array Value} {ds gs : List (DataW H)} {before : List MemPlace} {tb : TypeId}
    (hW : DataW.Whole enc P f.params.toList s.vars apart W args.toList ds gs before) (hv : s.vars = []) (hts : f.params.toList.all (fun t => P.readableRec t && decide (t < P.types.size)) = true)
    (hrt : f.resultTypes = #[tb]) (hub : P.underlying tb = some .bool) (hfn : s.fn H (ds ++ gs) = { results := [.lit (.bool true)], args := ds }) (hb : Below W.heap.size W W') :
    s.post enc P f apart fresh handsOn again W args (.bool true) W' := by
  have hlt : ∀ p ∈ before, p.block < W.heap.size := fun p hp => hW.lt p hp
  obtain ⟨p, q, hA, hV, rfl, hfz, hnd⟩ := id hW
  have hq : q = [] ∧ gs = [] := by
    rw [hv] at hV
    cases gs with
    | nil => exact ⟨by simpa [DataW.TrodVars] using hV, rfl⟩
    | cons g gs => simp [DataW.TrodVars] at hV
  obtain ⟨rfl, rfl⟩ := hq
  have hts' : ∀ t ∈ f.params.toList, P.readableRec t = true ∧ t < P.types.size := by
    intro t ht
    have := List.all_eq_true.1 hts t ht
    simpa using this
  refine post_of_below (pa := p) (pv := []) hW ?_ ?_ ?_ rfl hb ?_
  · intro b sp hd
    rw [hfn, hrt]
    exact trodAll_cons_mk (shut_bool hub true) trodAll_mk0
  · intro sp hsp
    rw [hfn]
    exact trodAll_below hl hb _ _ _ _ hts' hA (fun x hx => hlt x (by simpa using hx)) (fun x hx => hsp x (by simpa using hx))
  · intro sp hsp
    rw [hfn, hv]; rfl
  · exact ok_one hrt rfl (okWide_bool_mk hub true)

/-! ### arguments -/
theorem list_of {α : Type} {Q : Nat → α → Prop} : ∀ n, (∀ i, i < n → ∃ x, Q i x) → ∃ l : List α, l.length = n ∧ ∀ i x, l[i]? = some x → Q i x := by
  intro n
  induction n with
  | zero => intro _; exact ⟨[], rfl, fun i x h => by simp at h⟩
  | succ n ih =>
    intro h
    obtain ⟨l, hl, hq⟩ := ih (fun i hi => h i (by omega))
    obtain ⟨x, hx⟩ := h n (by omega)
    refine ⟨l ++ [x], by simp [hl], fun i y hy => ?_⟩
    rcases Nat.lt_or_ge i l.length with h' | h'
    · rw [List.getElem?_append_left h'] at hy; exact hq i y hy
    · have hi : i < (l ++ [x]).length := (List.getElem?_eq_some_iff.1 hy).1
      have hin : i = n := by simp at hi; omega
      rw [List.getElem?_append_right h'] at hy
      have h0 : i - l.length = 0 := by omega
      rw [h0] at hy; simp at hy; subst hy
      subst hin; exact hx

theorem spot_none {w : World} {a : Addr} {v : Value} (h : w.cell? a = some v) : a.spot = none := by
  unfold World.cell? at h
  split at h
  · cases hs : a.spot with
    | none => rfl
    | some _ => simp [hs] at h
  · simp at h

theorem one_int {W : World} {n : Nat} {t : TypeId} {c : Value} {y : DataW H × List MemPlace} (ht : P.underlying t = some (.int .i64)) (h : DataW.trod enc P W 0 (fun _ => true) true n t [c] = some y) :
    ∃ x : Int, c = .int .i64 x ∧ -9223372036854775808 ≤ x ∧ x ≤ 9223372036854775807 := by
  obtain ⟨x, hx, -, hw⟩ := DataW.trod_int ht h
  simp only [List.cons.injEq, and_true] at hx
  have : -9223372036854775808 ≤ x ∧ x ≤ 9223372036854775807 := by simpa [Lit.wf, IntKind.min, IntKind.max, IntKind.signed, IntKind.bits] using hw
  exact ⟨x, hx, this.1, this.2⟩
theorem one_bool {W : World} {n : Nat} {t : TypeId} {c : Value} {y : DataW H × List MemPlace} (ht : P.underlying t = some .bool) (h : DataW.trod enc P W 0 (fun _ => true) true n t [c] = some y) : ∃ x : Bool, c = .bool x := by
  obtain ⟨x, hx, -⟩ := DataW.trod_bool ht h
  simp only [List.cons.injEq, and_true] at hx
  exact ⟨x, hx⟩
/-- A field of a struct: its cells, read by its type. -/
theorem fld {W : World} {n : Nat} {t : TypeId} {fs : Array Field} {cs : List Value} {y : DataW H × List MemPlace} (hs : P.underlying t = some (.struct fs)) (h : DataW.trod enc P W 0 (fun _ => true) true n t cs = some y) {i : Nat} {f : Field} (hf : fs[i]? = some f) :
    ∃ n' y', DataW.trod enc P W 0 (fun _ => true) true n' f.type ((cs.drop f.offset).take (P.cellsOf f.type)) = some y' := by
  obtain ⟨xs, n', -, -, -, hlen, hg⟩ := DataW.trod_struct hs h
  have hi : i < xs.length := by rw [hlen]; exact (Array.getElem?_eq_some_iff.1 hf).1
  exact ⟨n', xs[i], (hg i f hf).trans (List.getElem?_eq_getElem hi)⟩
theorem fld1 {W : World} {n : Nat} {t : TypeId} {fs : Array Field} {cs : List Value} {y : DataW H × List MemPlace} (hs : P.underlying t = some (.struct fs)) (h : DataW.trod enc P W 0 (fun _ => true) true n t cs = some y) {i : Nat} {f : Field} {c : Value} (hf : fs[i]? = some f)
    (hone : P.cellsOf f.type = 1) (hc : cs[f.offset]? = some c) : ∃ n' y', DataW.trod enc P W 0 (fun _ => true) true n' f.type [c] = some y' := by
  obtain ⟨n', y', h'⟩ := fld hs h hf
  obtain ⟨hlt, rfl⟩ := List.getElem?_eq_some_iff.1 hc
  rw [hone, List.drop_eq_getElem_cons hlt] at h'
  exact ⟨n', y', h'⟩
theorem one_slice {W : World} {n : Nat} {t e : TypeId} {c : Value} {y : DataW H × List MemPlace} (ht : P.underlying t = some (.slice e)) (h : DataW.trod enc P W 0 (fun _ => true) true n t [c] = some y) : ∃ A len cap, c = .slice A len cap := by
  rcases open_slice ht h with ⟨hcs, _⟩ | ⟨a, len', cap', m, n, D, Pl, hcs, _⟩ <;> (simp only [List.cons.injEq, and_true] at hcs; exact ⟨_, _, _, hcs⟩)
theorem arg_int {W : World} {t : TypeId} {v : Value} {d : DataW H} {p : List MemPlace} {r : Reach} {b0 : Nat} (ht : P.underlying t = some (.int .i64)) (hv : Value.okWide P W r b0 t v) (h : DataW.Trod enc P W 0 (fun _ => true) true t v d p) :
    ∃ x : Int, v = .int .i64 x ∧ -9223372036854775808 ≤ x ∧ x ≤ 9223372036854775807 := by
  obtain ⟨x, rfl, -, -, hw⟩ := open_int ht hv h
  have : -9223372036854775808 ≤ x ∧ x ≤ 9223372036854775807 := by simpa [Lit.wf, IntKind.min, IntKind.max, IntKind.signed, IntKind.bits] using hw
  exact ⟨x, rfl, this.1, this.2⟩
theorem arg_bool {W : World} {t : TypeId} {v : Value} {d : DataW H} {p : List MemPlace} {r : Reach} {b0 : Nat} (ht : P.underlying t = some .bool) (hv : Value.okWide P W r b0 t v) (h : DataW.Trod enc P W 0 (fun _ => true) true t v d p) :
    ∃ x : Bool, v = .bool x := by
  obtain ⟨x, rfl, -, -⟩ := open_bool ht hv h
  exact ⟨x, rfl⟩
theorem sl_cell {α : Type} {row : α → List Value} {R : α → Prop} {k : Nat} {W : World} {t e : TypeId} {v : Value} (ht : P.underlying t = some (.slice e)) (hsz : P.cellsOf e = k) (hk : 0 < k)
    (helem : ∀ (cs : List Value) (n : Nat) (y : DataW H × List MemPlace), cs.length = k → DataW.trod enc P W 0 (fun _ => true) true n e cs = some y → ∃ x : α, row x = cs ∧ R x)
    (fuel : Nat) (y : DataW H × List MemPlace) (hf : DataW.trod enc P W 0 (fun _ => true) true fuel t [v] = some y) : ∃ l : List α, Sl k row W.heap.size W v l ∧ ∀ x ∈ l, R x := by
  obtain ⟨A, len, cap, rfl⟩ := one_slice ht hf
  rcases open_slice ht hf with ⟨hcs, _⟩ | ⟨a, len', cap', m, n, D, Pl, hcs, hb, hlc, hm, hmm, _, hi⟩
  · simp only [List.cons.injEq, and_true] at hcs
    cases hcs
    exact ⟨[], Sl.nil_ _ _ _ _, fun x hx => by cases hx⟩
  · simp only [List.cons.injEq, and_true] at hcs
    cases hcs
    simp only [if_true] at hmm
    obtain ⟨l, hl, hq⟩ := list_of (α := α) (Q := fun i x => (∀ j u, (row x)[j]? = some u → W.cell? (a.add (i * k + j)) = some u) ∧ R x ∧ (row x).length = k) len (by
      intro i hlt
      obtain ⟨cs', hc, ht'⟩ := hi i (by omega)
      rw [hsz] at hc
      obtain ⟨_, hcl, hcell⟩ := World.cells?_some hc
      obtain ⟨x, hx, hr⟩ := helem cs' n _ hcl ht'
      refine ⟨x, fun j u hu => ?_, hr, by rw [hx]; exact hcl⟩
      rw [hx] at hu
      have hj : j < k := by have := (List.getElem?_eq_some_iff.1 hu).1; omega
      have := hcell j hj
      rw [add_add] at this
      rw [this]; exact hu)
    refine ⟨l, ⟨some a, cap, by rw [hl], by omega, hm, fun h => by simp at h, fun hne => ?_⟩, fun x hx => ?_⟩
    · have h0 : 0 < l.length := by cases l with | nil => exact absurd rfl hne | cons _ _ => simp
      have hx0 := List.getElem?_eq_getElem h0
      obtain ⟨hc0, -, hr0⟩ := hq 0 _ hx0
      have hu0 := List.getElem?_eq_getElem (show 0 < (row (l[0]'h0)).length by omega)
      have hcell0 := hc0 0 _ hu0
      have hs : a.spot = none := by
        have h1 := spot_none hcell0
        simpa [Addr.add] using h1
      obtain ⟨ab, ao, ax⟩ := a
      simp only at hs
      subst hs
      refine ⟨ab, ao, rfl, ?_, fun i x hx j u hu => ?_⟩
      · have := World.block_lt_of_cell? _ _ hcell0
        simpa [Addr.add] using this
      · have := (hq i x hx).1 j u hu
        rw [Addr.add_lit, ← Nat.add_assoc] at this
        exact this
    · obtain ⟨i, hi'⟩ := List.getElem?_of_mem hx
      exact (hq i x hi').2.1
theorem sl_open {α : Type} {row : α → List Value} {R : α → Prop} {k : Nat} {W : World} {t e : TypeId} {v : Value} {d : DataW H} {p : List MemPlace} {r : Reach} {b0 : Nat} (ht : P.underlying t = some (.slice e)) (hsz : P.cellsOf e = k) (hk : 0 < k)
    (helem : ∀ (cs : List Value) (n : Nat) (y : DataW H × List MemPlace), cs.length = k → DataW.trod enc P W 0 (fun _ => true) true n e cs = some y → ∃ x : α, row x = cs ∧ R x)
    (hv : Value.okWide P W r b0 t v) (h : DataW.Trod enc P W 0 (fun _ => true) true t v d p) : ∃ l : List α, Sl k row W.heap.size W v l ∧ ∀ x ∈ l, R x := by
  obtain ⟨A, len, cap, rfl⟩ := okWide_slice ht hv
  obtain ⟨fuel, hf⟩ := h
  exact sl_cell ht hsz hk helem fuel _ (by simpa [Value.cells] using hf)
end
end Go.Proofs.YtglkgmijhdkhpaaGreatDoor
