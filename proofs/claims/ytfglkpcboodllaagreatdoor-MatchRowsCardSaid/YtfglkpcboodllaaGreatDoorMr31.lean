/-
  WHAT THE STATEMENT MatchPlans ASKS of a plan: plain Lean, no program.
-/
import Derived.Test.YtfglkpcboodllaaGreatDoorMr9
import Derived.Test.YtfglkpcboodllaaGreatDoorMr14
set_option linter.unusedVariables false
namespace Go.Proofs.YtfglkpcboodllaaGreatDoor
open Go.RowKit

section
variable {b prev : Idt} {l : List Idt} {es : List Ent} {p : Pln} {m : Nat} {sh : Int}
theorem hintN_is (n : Nat) : (atV b l (hintN b l n)).isSome = true ∧ hintN b l n ≤ b.idx + (n : Int) := by
  induction n with
  | zero => exact ⟨by show (atV b l b.idx).isSome = true; rw [atV_base rfl]; rfl, by show b.idx ≤ _; omega⟩
  | succ n ih =>
    by_cases h : (atV b l (b.idx + (n : Int) + 1)).isSome = true
    · have e : hintN b l (n + 1) = b.idx + (n : Int) + 1 := by show (if _ then _ else _) = _; rw [if_pos h]
      rw [e]; exact ⟨h, by omega⟩
    · have e : hintN b l (n + 1) = hintN b l n := by show (if _ then _ else _) = _; rw [if_neg h]
      rw [e]; exact ⟨ih.1, by omega⟩
theorem last_sure (hr : rightV b l = true) : (atV b l (lastI b l)).isSome = true := by
  obtain ⟨-, h2⟩ := right_parts hr
  unfold lastI
  cases hn : l.length with
  | zero => rw [atV_base (by simp)]; rfl
  | succ n =>
    have hx := List.getElem?_eq_getElem (show l.length - 1 < l.length by omega)
    have hk := endOk_at hx
    rw [h2] at hk
    have hk' := of_decide_eq_true hk.symm
    rw [atV_in (j := l.length - 1) (by omega) hx, if_neg hk']; rfl
theorem fitK_low' {i t : Int} (h : fitK b l sh i t ≠ 0) : b.idx < i := by
  by_cases h0 : i ≤ b.idx
  · exact absurd (fitK_low h0) h
  · omega
/-- What is told of an append that does not fit. -/
theorem fitH_sure (hr : rightV b l = true) {i t : Int} (h : fitK b l sh i t ≠ 0) : (atV b l (fitH b l i)).isSome = true ∧ fitH b l i < i := by
  have hb := fitK_low' h
  by_cases hf : lastI b l < i
  · have e : fitH b l i = lastI b l := by unfold fitH; rw [if_pos hf]
    rw [e]; exact ⟨last_sure hr, hf⟩
  · have e : fitH b l i = hintN b l (i - b.idx - 1).toNat := by unfold fitH hintV; rw [if_neg hf]
    obtain ⟨h1, h2⟩ := hintN_is (b := b) (l := l) (i - b.idx - 1).toNat
    rw [e]; exact ⟨h1, by omega⟩
theorem fitK_two {i t : Int} (h : fitK b l sh i t = 2) : ∃ a, atV b l i = some a ∧ a.trm ≠ t := by
  by_cases h0 : i ≤ b.idx
  · rw [fitK_low h0] at h; omega
  by_cases h1 : lastI b l < i
  · rw [fitK_far h0 h1] at h; omega
  cases ha : atV b l i with
  | none => rw [fitK_none h0 h1 ha] at h; split at h <;> omega
  | some a =>
    rw [fitK_some h0 h1 ha] at h
    exact ⟨a, rfl, fun e => by rw [if_pos e] at h; omega⟩
theorem fitK_zero {i t : Int} {a : Idt} (h : fitK b l sh i t = 0) (hb : b.idx < i) (ha : atV b l i = some a) : a.trm = t := by
  have hr := (atV_range ha).2
  rw [fitK_some (by omega) (by unfold lastI; omega) ha] at h
  by_cases e : a.trm = t
  · exact e
  · rw [if_neg e] at h; omega
theorem fitK_one {i t : Int} (h : fitK b l sh i t = 1) : lastI b l < i := by
  by_cases h0 : i ≤ b.idx
  · rw [fitK_low h0] at h; omega
  by_cases h1 : lastI b l < i
  · exact h1
  cases ha : atV b l i with
  | none => rw [fitK_none h0 h1 ha] at h; split at h <;> omega
  | some a => rw [fitK_some h0 h1 ha] at h; split at h <;> omega
/-- What is cut. -/
theorem plan_cut (h : Stops b l sh prev es p m) (hc : 0 < p.cut) : ∃ a x r, atV b l p.cut = some a ∧ p.add = x :: r ∧ x.idx = p.cut ∧ a.trm ≠ x.trm := by
  rcases h.stop with ⟨-, h2, -, -⟩ | ⟨y, hy, hby, ⟨-, h2, -, -⟩ | ⟨h5, h2, h3, -⟩ | ⟨-, h2, -, -⟩⟩
  · omega
  · omega
  · obtain ⟨a, ha, hat⟩ := fitK_two h5
    refine ⟨a, y, es.drop (m + 1), by rw [h2]; exact ha, by rw [h3, drop_at hy], h2.symm, hat⟩
  · omega
/-- What stays. -/
theorem plan_stays (hb : 0 ≤ b.idx) (hf : folE prev es = 0) (hp : fitK b l sh prev.idx prev.trm = 0) (h : Stops b l sh prev es p m) {i : Int} {a : Idt} (ha : atV b l i = some a) (hc : p.cut = 0 ∨ i < p.cut) :
    ∃ z, atV b (behV b l p) i = some z ∧ a.trm = z.trm := by
  obtain ⟨hr1, hr2⟩ := atV_range ha
  have hc' : p.cut ≤ 0 ∨ i < p.cut := by omega
  by_cases hbi : i = b.idx
  · subst hbi
    rw [atV_base rfl] at ha; injection ha with ha; subst ha
    exact ⟨b, atV_base rfl, rfl⟩
  have hbi' : b.idx < i := by omega
  by_cases h1 : i ≤ prev.idx ∨ p.idx < i
  · refine ⟨a, ?_, rfl⟩
    rw [beh_at_old hb hf hp h hbi' h1 hc' (by unfold lastI; exact hr2)]; exact ha
  · have hlen : p.idx ≤ prev.idx + (es.length : Int) ∨ p.idx = b.idx := by
      have hle := h.le
      rcases h.stop with ⟨_, -, -, h4⟩ | ⟨y, hy, hby, ⟨-, -, -, h4⟩ | ⟨-, -, -, h4⟩ | ⟨-, -, -, h4⟩⟩ <;> omega
    have hq : ∃ q : Nat, (q : Int) = i - prev.idx - 1 := ⟨(i - prev.idx - 1).toNat, by omega⟩
    obtain ⟨q, hq⟩ := hq
    have hql : q < es.length := by omega
    obtain ⟨x, hx⟩ : ∃ x, es[q]? = some x := ⟨_, List.getElem?_eq_getElem hql⟩
    have hxi := fol_idx hf hx
    have e : x.idx = i := by omega
    have hat := beh_at hb hf hp h hx (by omega) (by omega)
    rw [e] at hat
    refine ⟨ofE x, hat, ?_⟩
    show a.trm = x.trm
    by_cases hqm : q < m
    · have h0 := h.fit q x hqm hx (by omega)
      rw [e] at h0
      exact fitK_zero h0 hbi' ha
    · exfalso
      rcases h.stop with ⟨h1, -, -, h4⟩ | ⟨y, hy, hby, ⟨h5, -, -, h4⟩ | ⟨-, h2, -, h4⟩ | ⟨-, -, -, h4⟩⟩
      · omega
      · have hyi := fol_idx hf hy
        have := fitK_one h5
        unfold lastI at this
        omega
      · have hyi := fol_idx hf hy
        omega
      · omega
theorem setsV_key {s s' : List Ent} (h : s'.map ofE = s.map ofE) : ∀ l, setsV b l s' = setsV b l s := by
  induction s generalizing s' with
  | nil => intro l; have : s' = [] := by simpa using h
           subst this; rfl
  | cons e s ih =>
    intro l
    cases s' with
    | nil => simp at h
    | cons e' s' =>
      simp only [List.map_cons, List.cons.injEq] at h
      have h1 : e'.idx = e.idx := congrArg Idt.idx h.1
      show setsV b (l.set (e'.idx - b.idx - 1).toNat (ofE e')) s' = setsV b (l.set (e.idx - b.idx - 1).toNat (ofE e)) s
      rw [h1, h.1]; exact ih h.2 _
theorem map_ofE_key {s s' : List Ent} (h : s'.map keyE = s.map keyE) : s'.map ofE = s.map ofE := by
  have e : ∀ x : Ent, ofE x = (fun k : Int × Int × Int × List Int => (⟨k.1, k.2.1, k.2.2.1⟩ : Idt)) (keyE x) := fun _ => rfl
  have e2 : ∀ t : List Ent, t.map ofE = (t.map keyE).map (fun k : Int × Int × Int × List Int => (⟨k.1, k.2.1, k.2.2.1⟩ : Idt)) := fun t => by
    rw [List.map_map]; rfl
  rw [e2, e2, h]
/-- Where what is put stands. -/
theorem stops_place (hb : 0 ≤ b.idx) (hf : folE prev es = 0) (hp : fitK b l sh prev.idx prev.trm = 0) (h : Stops b l sh prev es p m) {e : Ent} (he : e ∈ p.same) : b.idx < e.idx ∧ e.idx ≤ b.idx + ((cutV b l p).length : Int) := by
  obtain ⟨i, hi, hx, hbe⟩ := stops_mem hf h he
  have hei := fol_idx hf hx
  obtain ⟨hc1, hc2⟩ := cutV_length hb hf hp h
  refine ⟨hbe, ?_⟩
  by_cases hc : 0 < p.cut
  · have := hc1 hc; omega
  · rw [hc2 hc]
    have := stops_last hb hf hp h (i + 1) (by omega)
    unfold lastI at this; push_cast at this; omega
theorem stops_cut (hb : 0 ≤ b.idx) (hf : folE prev es = 0) (hp : fitK b l sh prev.idx prev.trm = 0) (h : Stops b l sh prev es p m) : 0 ≤ p.cut ∧ (0 < p.cut → b.idx < p.cut ∧ p.cut ≤ b.idx + (l.length : Int)) := by
  obtain ⟨hc1, hc2⟩ := cutV_length hb hf hp h
  constructor
  · rcases h.stop with ⟨-, h2, -, -⟩ | ⟨y, hy, hby, ⟨-, h2, -, -⟩ | ⟨-, h2, -, -⟩ | ⟨-, h2, -, -⟩⟩ <;> omega
  · intro hc
    obtain ⟨h1, h2, h3, h4⟩ := hc1 hc
    unfold lastI at h3; exact ⟨h2, h3⟩
end
end Go.Proofs.YtfglkpcboodllaaGreatDoor
