/-
  RECORDS that were given, taken: what they are.
-/
import Derived.Test.YtglkgmijhdkhpaaDoorHealGive
import Derived.Test.YtglkgmijhdkhpaaDoorHealAllMath
set_option linter.unusedVariables false
set_option linter.unusedSimpArgs false
namespace Go.Proofs.YtglkgmijhdkhpaaDoor
open Go.RowKit

/-- What is taken. -/
structure TookOk (rot : List Idt) (m : List Rec) : Prop where
  mem : ∀ x ∈ m, goodE x.e = true ∧ ofE x.e ∈ wantsV rot ∧ x.a.idx = x.e.idx - 1
  ord : m.Pairwise fun x y => x.e.idx < y.e.idx
  len : m.length ≤ rot.length
theorem took_ok {rot : List Idt} {l m : List Rec} (h : m.map nrmR = (takeV rot l).map nrmR) : TookOk rot m := by
  have h2 : m.map nrmR = takeV rot (l.map nrmR) := h.trans (take_nrm rot l).symm
  refine ⟨fun x hx => ?_, ?_, ?_⟩
  · have hm : nrmR x ∈ takeV rot (l.map nrmR) := by rw [← h2]; exact List.mem_map_of_mem hx
    have hg := give_mem hm
    have ha := goodR_ahead hg.2.1
    exact ⟨ha.1, hg.2.2, ha.2.1⟩
  · have ho := take_order rot (l.map nrmR)
    rw [← h2, List.pairwise_map] at ho
    exact ho
  · have h3 := congrArg List.length h2
    rw [List.length_map] at h3
    have h4 := give_len (l.map nrmR) (wantsV rot) rot.length
    have h5 := wants_len rot
    have h6 : (takeV rot (l.map nrmR)).length ≤ (wantsV rot).length := h4
    omega
theorem gave_ok {want : List Idt} {l m : List Rec} {most : Int} (h : m.map nrmR = (giveV l want most).map nrmR) : (∀ x ∈ m, ofE x.e ∈ want) ∧ (m.length : Int) ≤ max most 0 := by
  have h2 : m.map nrmR = giveV (l.map nrmR) want most := h.trans (give_nrm l want most).symm
  refine ⟨fun x hx => ?_, ?_⟩
  · have hm : nrmR x ∈ giveV (l.map nrmR) want most := by rw [← h2]; exact List.mem_map_of_mem hx
    exact (give_mem hm).2.2
  · have h3 := congrArg List.length h2
    rw [List.length_map] at h3
    have := give_le (l.map nrmR) want most
    omega
theorem WantsV_all (rot : List Idt) : WantsV rot rot.length = wantsV rot := by
  unfold WantsV
  have := wants_len rot
  rw [show (min (((wantsV rot).length : Int)) (max (rot.length : Int) 0)).toNat = (wantsV rot).length by omega, List.take_length]
theorem rec_from {x : Rec} {l m : List Rec} {want : List Idt} {most : Int} (h : m.map nrmR = (giveV l want most).map nrmR) (hx : x ∈ m) : ∃ y ∈ l, y.e.idx = x.e.idx ∧ y.e.trm = x.e.trm ∧ y.e.knd = x.e.knd ∧ y.e.bd = x.e.bd ∧ y.a = x.a := by
  have hm : nrmR x ∈ (giveV l want most).map nrmR := by rw [← h]; exact List.mem_map_of_mem hx
  obtain ⟨y, hy, hxy⟩ := List.mem_map.1 hm
  have h1 : nrmE y.e = nrmE x.e := congrArg Rec.e hxy
  exact ⟨y, (give_mem hy).1, (congrArg Ent.idx h1 : _), (congrArg Ent.trm h1 : _), (congrArg Ent.knd h1 : _), (congrArg Ent.bd h1 : _), (congrArg Rec.a hxy : _)⟩
theorem rec_in {B : Nat} {w V : World} {v : Value} {l m : List Rec} {want : List Idt} {most : Int} (h : RecRs B w v (giveV l want most) m) (hl : ∀ r ∈ l, ∀ y ∈ r.e.bd, 0 ≤ y ∧ y ≤ 255) (hV : Below w.heap.size w V) : ∀ x ∈ m, EntIn V.heap.size V x.e := fun x hx => by
  obtain ⟨i, hi⟩ := List.mem_iff_getElem?.1 hx
  have h1 := h.bod.own i x.e (by rw [List.getElem?_map, hi]; rfl)
  obtain ⟨y, hy, -, -, -, hbd, -⟩ := rec_from h.key hx
  exact ⟨(h1.sl u8Row_length).later hV, by rw [← hbd]; exact hl y hy⟩

end Go.Proofs.YtglkgmijhdkhpaaDoor
