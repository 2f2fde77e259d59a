/-
  Merged: OneRun, PlanKit, PlanBeh.
-/
import Derived.Test.YtfglkpcboodllaaGreatDoorMr32
import Derived.Test.YtfglkpcboodllaaGreatDoorMr31
import Derived.Test.YtfglkpcboodllaaGreatDoorMr33
/-
  TWO LOGS OF ONE KIND, turn by turn: plain Lean, no program.
-/
set_option linter.unusedVariables false
namespace Go.Proofs.YtfglkpcboodllaaGreatDoor
open Go.RowKit

section
variable {own : List Int} {T : Int} {lead : List Ent} {l : List Idt} {a next turn : Nat}
/-- Where both are one, an append fits. -/
theorem one_fits (hO : OwnI own T) (hL : LeadI own lead) (hn : next ≤ lead.length) (h : OneI own T l a) (hna : next ≤ a) {sh : Int} : fitK zI l sh (prevE lead next).idx (prevE lead next).trm = 0 := by
  have hpi := prevE_idx hL hn
  obtain ⟨ha1, ha2⟩ := h.ha
  have hz0 : zI.idx = 0 := rfl
  by_cases h0 : 0 < next
  · obtain ⟨t, ht, e⟩ := prevE_at hL hn h0
    obtain ⟨p, hp⟩ : ∃ p, l[next - 1]? = some p := ⟨_, List.getElem?_eq_getElem (by omega)⟩
    have hat := h.at hp
    rw [show ((next - 1 : Nat) : Int) + 1 = (next : Int) by omega] at hat
    have e1 := h.near (next - 1) p (by omega) hp
    rw [ht] at e1; injection e1 with e1
    rw [hpi, fitK_some (by rw [hz0]; omega) (by unfold lastI; rw [hz0]; omega) hat, e, if_pos e1.symm]
  · exact fitK_low (by rw [hpi, hz0]; omega)
/-- How many turns there are. -/
def TurnI (lead : List Ent) (a next turn : Nat) : Prop := turn + next ≤ lead.length ∨ (next ≤ a ∧ 3 * turn ≤ 3 * lead.length + next)
theorem turn_lt (hO : OwnI own T) (hL : LeadI own lead) (hn : next ≤ lead.length) (h : TurnI lead a next turn) : turn < 100 := by
  have h1 := hO.len
  have h2 := hL.len
  unfold TurnI at h
  omega
theorem turn_no (hn : next ≤ lead.length) (hO : OwnI own T) (hL : LeadI own lead) (h : OneI own T l a) (ht : TurnI lead a next turn) {sh : Int} (hk : fitK zI l sh (prevE lead next).idx (prevE lead next).trm ≠ 0) {n : Nat} (hlt : n < next) : TurnI lead a n (turn + 1) := by
  rcases ht with ht | ht
  · exact .inl (by omega)
  · exact absurd (one_fits hO hL hn h ht.1) hk
theorem turn_yes (hn : next ≤ lead.length) (ht : TurnI lead a next turn) (hlt : min (next + 3) lead.length < lead.length) {a' : Nat} (ha : a' = max a (min (next + 3) lead.length)) : TurnI lead a' (min (next + 3) lead.length) (turn + 1) := by
  unfold TurnI at ht ⊢
  right
  omega
theorem behV_none (b : Idt) (l : List Idt) (i : Int) : behV b l ⟨i, 0, [], []⟩ = l := by
  unfold behV cutV
  rw [if_neg (by show ¬ (0 : Int) < 0; omega)]
  show setsV b l [] ++ [] = l
  rw [List.append_nil]; rfl
end
end Go.Proofs.YtfglkpcboodllaaGreatDoor
/-
  WHAT STANDS IN A VIEW BEHIND A PLAN, and the same append again: plain Lean, no program.
-/
set_option linter.unusedVariables false
namespace Go.Proofs.YtfglkpcboodllaaGreatDoor
open Go.RowKit

theorem plan_stops {b prev : Idt} {l : List Idt} {es : List Ent} {sh : Int} (hf : folE prev es = 0) : ∃ m, Stops b l sh prev es (planV b l sh es (max prev.idx b.idx) []) m := by
  obtain ⟨m, h⟩ := planV_stops (b := b) (l := l) (sh := sh) hf _ 0 rfl (Nat.zero_le _) (fun i x hi => absurd hi (by omega)) (max prev.idx b.idx) [] (by simp) (by simp)
  exact ⟨m, by rwa [List.drop_zero] at h⟩
theorem setsV_mem (b : Idt) (s : List Ent) : ∀ (l : List Idt) (x : Idt), x ∈ setsV b l s → x ∈ l ∨ ∃ e ∈ s, x = ofE e := by
  induction s with
  | nil => intro l x h; exact .inl h
  | cons e r ih =>
    intro l x h
    rcases ih _ x h with h1 | ⟨y, hy, h1⟩
    · rcases List.mem_or_eq_of_mem_set h1 with h2 | h2
      · exact .inl h2
      · exact .inr ⟨e, List.mem_cons_self .., h2⟩
    · exact .inr ⟨y, List.mem_cons_of_mem _ hy, h1⟩
theorem beh_mem {b : Idt} {l : List Idt} {p : Pln} {x : Idt} (h : x ∈ behV b l p) : x ∈ l ∨ (∃ e ∈ p.same, x = ofE e) ∨ ∃ e ∈ p.add, x = ofE e := by
  unfold behV at h
  rcases List.mem_append.1 h with h | h
  · rcases setsV_mem b p.same _ x h with h1 | h1
    · left
      unfold cutV at h1
      split at h1
      · exact List.mem_of_mem_take h1
      · exact h1
    · exact .inr (.inl h1)
  · obtain ⟨e, he, rfl⟩ := List.mem_map.1 h
    exact .inr (.inr ⟨e, he, rfl⟩)
theorem cutV_le (b : Idt) (l : List Idt) (p : Pln) : (cutV b l p).length ≤ l.length := by
  unfold cutV
  split
  · rw [List.length_take]; omega
  · exact Nat.le_refl _
theorem beh_len (b : Idt) (l : List Idt) (p : Pln) : (behV b l p).length ≤ l.length + p.add.length := by
  unfold behV
  rw [List.length_append, setsV_length, List.length_map]
  have := cutV_le b l p
  omega
/-- What a plan's copies make of a view is what the plan makes. -/
theorem beh_key {b : Idt} {l : List Idt} {p : Pln} {m1 m2 : List Ent} {ix : Int} (h1 : m1.map keyE = p.same.map keyE) (h2 : m2.map keyE = p.add.map keyE) : behV b l ⟨ix, p.cut, m1, m2⟩ = behV b l p := by
  unfold behV
  show setsV b (cutV b l ⟨ix, p.cut, m1, m2⟩) m1 ++ m2.map ofE = _
  have e : cutV b l ⟨ix, p.cut, m1, m2⟩ = cutV b l p := rfl
  rw [e, setsV_key (map_ofE_key h1), map_ofE_key h2]
end Go.Proofs.YtfglkpcboodllaaGreatDoor
/-
  limpetlaw20's behind: contract.
-/
set_option linter.unusedVariables false
set_option linter.unusedSimpArgs false
namespace Go.Proofs.YtfglkpcboodllaaGreatDoor
open Go.RowKit

theorem setCell3_far {w : World} {n i j k : Nat} {u v t : Value} {a : Addr} (h : a.block ≠ n) : (((w.setCell ⟨n, i, none⟩ u).setCell ⟨n, j, none⟩ v).setCell ⟨n, k, none⟩ t).cell? a = w.cell? a :=
  (setCell_cell_far h).trans ((setCell_cell_far h).trans (setCell_cell_far h))
theorem own_ne {α : Type} {k : Nat} {row : α → List Value} {e t : TypeId} {base q n c g : Nat} {w : World} {l : List α} {cs : Array Value} (h : Own k row e base w (.slice (some ⟨q, 0, none⟩) n c) l) (hx : Box w g cs t) (he : e ≠ t) : q ≠ g := by
  rintro rfl
  rcases h.2 with ⟨hv, _⟩ | ⟨g', cap, cur, hv, _, hh, _⟩
  · simp at hv
  · simp only [Value.slice.injEq, Option.some.injEq, Addr.mk.injEq, and_true] at hv
    obtain ⟨rfl, -, -⟩ := hv
    unfold Box at hx
    rw [hx] at hh
    simp only [Option.some.injEq, Obj.cells.injEq] at hh
    exact he hh.2.1.symm
theorem Own.spot_ne {α : Type} {k : Nat} {row : α → List Value} {e t : TypeId} {base g : Nat} {w : World} {v : Value} {l : List α} {cs : Array Value} (h : Own k row e base w v l) (hx : Box w g cs t) (he : e ≠ t) : ∀ q, v.ownBlock = some q → q ≠ g := fun q hq => by
  obtain ⟨c, hv⟩ := h.spot hq
  rw [hv] at h
  exact own_ne h hx he
theorem Own.set4x {α : Type} {k : Nat} {row : α → List Value} {e t : TypeId} {base g : Nat} {w : World} {v : Value} {l : List α} {cs : Array Value} (h : Own k row e base w v l) (hx : Box w g cs t) (he : e ≠ t) (x y z u : Value) :
    Own k row e base ((((w.setCell ⟨g, 0, none⟩ x).setCell ⟨g, 1, none⟩ y).setCell ⟨g, 2, none⟩ z).setCell ⟨g, 3, none⟩ u) v l := h.stay fun q hq => by
  have hn := h.spot_ne hx he q hq
  exact (Below.heap_setCell _ ⟨g, 3, none⟩ u q hn).trans ((Below.heap_setCell _ ⟨g, 2, none⟩ z q hn).trans ((Below.heap_setCell _ ⟨g, 1, none⟩ y q hn).trans (Below.heap_setCell _ ⟨g, 0, none⟩ x q hn)))
theorem Own.set1x {α : Type} {k : Nat} {row : α → List Value} {e t : TypeId} {base g : Nat} {w : World} {v : Value} {l : List α} {cs : Array Value} (h : Own k row e base w v l) (hx : Box w g cs t) (he : e ≠ t) (i : Nat) (x : Value) : Own k row e base (w.setCell ⟨g, i, none⟩ x) v l := h.stay fun q hq => Below.heap_setCell _ ⟨g, i, none⟩ x q (h.spot_ne hx he q hq)
theorem Own.writeId {e : TypeId} {base g cap n k : Nat} {w : World} {l : List Idt} {x y : Idt} (h : Own 3 idRow e base w (.slice (some ⟨g, 0, none⟩) n cap) l) (hx : l[k]? = some x) :
    Own 3 idRow e base (((w.setCell ⟨g, k * 3, none⟩ (.int .i64 y.idx)).setCell ⟨g, k * 3 + 1, none⟩ (.int .i64 y.trm)).setCell ⟨g, k * 3 + 2, none⟩ (.int .i64 y.knd)) (.slice (some ⟨g, 0, none⟩) n cap) (l.set k y) := by
  have hk := (List.getElem?_eq_some_iff.1 hx).1
  have h1 := h.write idRow_length (i := k) (j := 0) (y := ⟨y.idx, x.trm, x.knd⟩) (u := .int .i64 y.idx) hx rfl (by omega)
  have h2 := h1.write idRow_length (i := k) (j := 1) (y := ⟨y.idx, y.trm, x.knd⟩) (u := .int .i64 y.trm) (x := ⟨y.idx, x.trm, x.knd⟩) (by simp [hk]) rfl (by omega)
  rw [List.set_set] at h2
  have h3 := h2.write idRow_length (i := k) (j := 2) (y := y) (u := .int .i64 y.knd) (x := ⟨y.idx, y.trm, x.knd⟩) (by simp [hk]) rfl (by omega)
  rw [List.set_set] at h3
  exact h3
theorem setsV_take {b : Idt} {l : List Idt} {s : List Ent} {k : Nat} {x : Ent} (hx : s[k]? = some x) : setsV b l (s.take (k + 1)) = (setsV b l (s.take k)).set (x.idx - b.idx - 1).toNat (ofE x) := by
  rw [take_at hx, setsV_append]; rfl
theorem setsV_one (b : Idt) (l : List Idt) : setsV b l [] = l := rfl

end Go.Proofs.YtfglkpcboodllaaGreatDoor
