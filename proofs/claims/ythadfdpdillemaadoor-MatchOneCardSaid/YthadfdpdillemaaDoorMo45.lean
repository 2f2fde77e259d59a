/-
  WHAT Fit TELLS of an append of the one log to the other: contract. Condition: errors.errorType holds its value.
-/
import Derived.Test.YthadfdpdillemaaDoorMo44
set_option linter.unusedVariables false
set_option linter.unusedSimpArgs false
namespace Go.Proofs.YthadfdpdillemaaDoor
open Go.RowKit

def FitG (L : List Idt) (es : List Ent) (pv : Idt) (next B : Nat) (w : World) (y : Bool) (ix ct : Int) (A1 : Option Addr) (n1 c1 : Nat) (A2 : Option Addr) (n2 c2 : Nat) : Prop :=
  (y = false ∧ ct = 0 ∧ A1 = none ∧ n1 = 0 ∧ c1 = 0 ∧ A2 = none ∧ n2 = 0 ∧ c2 = 0 ∧ 0 ≤ ix ∧ ix < (next : Int) ∧ fitK zI L (shownV zI L 0 es) pv.idx pv.trm ≠ 0) ∨
  (y = true ∧ fitK zI L (shownV zI L 0 es) pv.idx pv.trm = 0 ∧ ∃ q mm m1 m2, ix = q.idx ∧ ct = q.cut ∧ n1 = q.same.length ∧ n2 = q.add.length ∧ n1 ≤ es.length ∧ n2 ≤ es.length ∧ Stops zI L (shownV zI L 0 es) pv es q mm ∧ m1.map keyE = q.same.map keyE ∧ m2.map keyE = q.add.map keyE ∧ Own 4 entRow 44 B w (.slice A1 n1 c1) m1 ∧ Own 4 entRow 44 B w (.slice A2 n2 c2) m2)
theorem FitG.later {L : List Idt} {es : List Ent} {pv : Idt} {next B : Nat} {w w' : World} {y : Bool} {ix ct : Int} {A1 : Option Addr} {n1 c1 : Nat} {A2 : Option Addr} {n2 c2 : Nat} (h : FitG L es pv next B w y ix ct A1 n1 c1 A2 n2 c2) (hb : Below w.heap.size w w') : FitG L es pv next B w' y ix ct A1 n1 c1 A2 n2 c2 := by
  rcases h with h | ⟨h1, h2, q, mm, m1, m2, a1, a2, a3, a4, a5, a6, a7, a8, a9, b1, b2⟩
  · exact .inl h
  · exact .inr ⟨h1, h2, q, mm, m1, m2, a1, a2, a3, a4, a5, a6, a7, a8, a9, b1.later hb, b2.later hb⟩
theorem FitG.set5 {L : List Idt} {es : List Ent} {pv : Idt} {next B g : Nat} {w : World} {y : Bool} {ix ct : Int} {A1 : Option Addr} {n1 c1 : Nat} {A2 : Option Addr} {n2 c2 : Nat} (h : FitG L es pv next B w y ix ct A1 n1 c1 A2 n2 c2) (hg : g < B) (a b c d e : Value) : FitG L es pv next B (((((w.setCell ⟨g, 0, none⟩ a).setCell ⟨g, 1, none⟩ b).setCell ⟨g, 2, none⟩ c).setCell ⟨g, 3, none⟩ d).setCell ⟨g, 4, none⟩ e) y ix ct A1 n1 c1 A2 n2 c2 := by
  rcases h with h | ⟨h1, h2, q, mm, m1, m2, a1, a2, a3, a4, a5, a6, a7, a8, a9, b1, b2⟩
  · exact .inl h
  · exact .inr ⟨h1, h2, q, mm, m1, m2, a1, a2, a3, a4, a5, a6, a7, a8, a9, b1.set5b hg _ _ _ _ _, b2.set5b hg _ _ _ _ _⟩
theorem FitG.less {L : List Idt} {es : List Ent} {pv : Idt} {next B B' : Nat} {w : World} {y : Bool} {ix ct : Int} {A1 : Option Addr} {n1 c1 : Nat} {A2 : Option Addr} {n2 c2 : Nat} (h : FitG L es pv next B w y ix ct A1 n1 c1 A2 n2 c2) (hg : B' ≤ B) : FitG L es pv next B' w y ix ct A1 n1 c1 A2 n2 c2 := by
  rcases h with h | ⟨h1, h2, q, mm, m1, m2, a1, a2, a3, a4, a5, a6, a7, a8, a9, b1, b2⟩
  · exact .inl h
  · exact .inr ⟨h1, h2, q, mm, m1, m2, a1, a2, a3, a4, a5, a6, a7, a8, a9, b1.less hg, b2.less hg⟩
theorem fitOne {own : List Int} {T : Int} {lead : List Ent} {L : List Idt} {a next : Nat} (hO : OwnI own T) (hL : LeadI own lead) (hn : next ≤ lead.length) (h1 : OneI own T L a) (A : Option Addr) (c : Nat) (s : Value) (V : World) (hs : Sl 3 idRow V.heap.size V (.slice A L.length c) L) (he : Sl 4 entRow V.heap.size V s (sendE lead next)) (hein : ∀ x ∈ lead, EntIn V.heap.size V x ∧ x.bd.length ≤ 100000) (hG : errTypeIs V) :
    Calls Tryd.prog 12 #[.agg #[.int .i64 0, .int .i64 0, .int .i64 0, .slice A L.length c], .agg #[.int .i64 (prevE lead next).idx, .int .i64 (prevE lead next).trm, .int .i64 (prevE lead next).knd], s] V fun e w' =>
      ∃ y ix ct A1 n1 c1 A2 n2 c2, e = .returned (.tuple #[.agg #[.bool y, .int .i64 ix, .int .i64 ct, .slice A1 n1 c1, .slice A2 n2 c2], .int .i64 0]) ∧ FitG L (sendE lead next) (prevE lead next) next V.heap.size w' y ix ct A1 n1 c1 A2 n2 c2 ∧ Below V.heap.size V w' := by
  have hll := hL.len
  have hol := hO.len
  have hmem : ∀ x ∈ sendE lead next, x ∈ lead := fun x hx => List.mem_of_mem_take (List.mem_of_mem_drop hx)
  obtain ⟨As, cs, rfl, -⟩ := id he
  have hlen : (sendE lead next).length ≤ 100000 := by rw [sendE_length hn]; omega
  have hb : I64 zI.idx := by unfold I64 zI; simp only; omega
  have hp : I64 (prevE lead next).idx := by rw [prevE_idx hL hn]; unfold I64; omega
  have hin : ∀ q ∈ L, I64 q.idx := fun q hq => by
    obtain ⟨i, hi⟩ := List.getElem?_of_mem hq
    have h2 := (h1.idx i q hi).1
    have h3 := (List.getElem?_eq_some_iff.1 hi).1
    have h4 := h1.len
    unfold I64; omega
  have hix : ∀ x ∈ sendE lead next, I64 x.idx := fun x hx => by
    obtain ⟨i, hi⟩ := List.getElem?_of_mem (hmem x hx)
    have h2 := (hL.at_ i x hi).1
    have h3 := (List.getElem?_eq_some_iff.1 hi).1
    unfold I64; omega
  have hf := send_fol hO hL hn
  by_cases hk : fitK zI L (shownV zI L 0 (sendE lead next)) (prevE lead next).idx (prevE lead next).trm = 0
  · obtain ⟨mm, hst⟩ := plan_stops (b := zI) (l := L) (sh := shownV zI L 0 (sendE lead next)) hf
    have hsub := plan_sub (b := zI) (l := L) (sh := shownV zI L 0 (sendE lead next)) (ix := max (prevE lead next).idx zI.idx) hf rfl
    refine (fitYes zI (prevE lead next) L A c (sendE lead next) As cs V hs he (fun x hx => hein x (hmem x hx)) hlen hb hp hin hix hG (h1.right hO) hf hk).mono ?_
    rintro e w' ⟨A1, c1, m1, A2, c2, m2, rfl, r1, r2, hb9⟩
    exact ⟨_, _, _, _, _, _, _, _, _, rfl, .inr ⟨rfl, hk, _, mm, m1, m2, rfl, rfl, rfl, rfl, hsub.2.1, hsub.2.2.2, hst, r1.key, r2.key, r1.own, r2.own⟩, hb9⟩
  · have hno := one_no hO hL hn h1 hk
    refine (fitNo zI (prevE lead next) L A c (sendE lead next) As cs V hs he (fun x hx => hein x (hmem x hx)) hlen hb hp hin hix hG (h1.right hO) hf hk).mono ?_
    rintro e w' ⟨rfl, hb9⟩
    exact ⟨_, _, _, _, _, _, _, _, _, rfl, .inl ⟨rfl, rfl, rfl, rfl, rfl, rfl, rfl, rfl, hno.1, hno.2, hk⟩, hb9⟩
/-- behind, of such a plan. -/
theorem behOne {own : List Int} {T : Int} {lead : List Ent} {L : List Idt} {a next : Nat} (hO : OwnI own T) (hL : LeadI own lead) (hn : next ≤ lead.length) (h1 : OneI own T L a) (A : Option Addr) (c : Nat) (V : World) (hs : Sl 3 idRow V.heap.size V (.slice A L.length c) L) {y : Bool} {ix ct : Int} {A1 : Option Addr} {n1 c1 : Nat} {A2 : Option Addr} {n2 c2 B : Nat} (hg : FitG L (sendE lead next) (prevE lead next) next B V y ix ct A1 n1 c1 A2 n2 c2) :
    Calls Tryd.prog 13 #[.agg #[.int .i64 0, .int .i64 0, .int .i64 0, .slice A L.length c], .agg #[.bool y, .int .i64 ix, .int .i64 ct, .slice A1 n1 c1, .slice A2 n2 c2]] V fun e w' =>
      ∃ (L' : List Idt) (A' : Option Addr) (c' : Nat), e = .returned (.agg #[.int .i64 0, .int .i64 0, .int .i64 0, .slice A' L'.length c']) ∧ Own 3 idRow 26 V.heap.size w' (.slice A' L'.length c') L' ∧ Below V.heap.size V w' ∧
        ((y = false ∧ L' = L ∧ 0 ≤ ix ∧ ix < (next : Int) ∧ ct = 0 ∧ fitK zI L (shownV zI L 0 (sendE lead next)) (prevE lead next).idx (prevE lead next).trm ≠ 0) ∨ (y = true ∧ ix = ((min (next + 3) lead.length : Nat) : Int) ∧ (0 < ct → (a : Int) < ct) ∧ OneI own T L' (max a (min (next + 3) lead.length)))) := by
  have hll := hL.len
  have hol := hO.len
  have h4 := h1.len
  have hsl := sendE_length hn
  rcases hg with ⟨rfl, rfl, rfl, rfl, rfl, rfl, rfl, rfl, g1, g2, g3⟩ | ⟨rfl, hk, q, mm, m1, m2, rfl, rfl, rfl, rfl, hl1, hl2, hst, k1, k2, s1, s2⟩
  · have h := lawBeh zI L A c false ix 0 none 0 [] none 0 [] V hs (Sl.nil_ _ _ _ _) (Sl.nil_ _ _ _ _) (by omega) (by simp) (by simp) (Int.le_refl _) (fun h => absurd h (by omega)) (Int.le_refl _) (by show (0 : Int) ≤ _; omega) (fun e he => by simp at he)
    rw [behV_none] at h
    refine h.mono ?_
    rintro e w' ⟨A', c', rfl, ho, hb⟩
    exact ⟨L, A', c', rfl, ho, hb, .inl ⟨rfl, rfl, g1, g2, rfl, g3⟩⟩
  · have hf := send_fol hO hL hn
    have hm1 : m1.length = q.same.length := by have := congrArg List.length k1; simpa using this
    have hm2 : m2.length = q.add.length := by have := congrArg List.length k2; simpa using this
    have hb0 : (0 : Int) ≤ zI.idx := Int.le_refl _
    have hkm : ∀ e ∈ m1, zI.idx < e.idx ∧ e.idx ≤ zI.idx + ((cutV zI L ⟨q.idx, q.cut, m1, m2⟩).length : Int) := fun e he => by
      obtain ⟨i, hi⟩ := List.getElem?_of_mem he
      have e1 : (m1.map keyE)[i]? = some (keyE e) := by rw [List.getElem?_map, hi]; rfl
      rw [k1, List.getElem?_map] at e1
      cases hz : q.same[i]? with
      | none => rw [hz] at e1; simp at e1
      | some z =>
        rw [hz] at e1
        simp only [Option.map_some, Option.some.injEq, keyE, Prod.mk.injEq] at e1
        have := stops_place hb0 hf hk hst (List.mem_of_getElem? hz)
        rw [← e1.1]; exact this
    have h := lawBeh zI L A c true q.idx q.cut A1 c1 m1 A2 c2 m2 V hs (by rw [hm1]; exact s1.sl entRow_length) (by rw [hm2]; exact s2.sl entRow_length) (by omega) (by omega) (by omega) (stops_cut hb0 hf hk hst).1 (stops_cut hb0 hf hk hst).2 hb0 (by show (0 : Int) ≤ _; omega) hkm
    rw [beh_key k1 k2, hm1, hm2] at h
    obtain ⟨o1, o2, o3⟩ := one_yes hO hL hn h1 hk hst
    refine h.mono ?_
    rintro e w' ⟨A', c', rfl, ho, hb⟩
    exact ⟨_, A', c', rfl, ho, hb, .inr ⟨rfl, o1, o2, o3⟩⟩
end Go.Proofs.YthadfdpdillemaaDoor
