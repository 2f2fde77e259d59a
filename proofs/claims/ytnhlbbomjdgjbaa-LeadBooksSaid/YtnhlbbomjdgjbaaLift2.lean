/-
  FROM A ROW's REACH TO A SLICE ARGUMENT's LENGTH.
-/
import Derived.Test.YtnhlbbomjdgjbaaLift
import Derived.SizedLaws
set_option linter.unusedVariables false
namespace Go.Proofs.Ytnhlbbomjdgjbaa
open Go.ChangeShapes Go.WideShapes Go.ChangeAt Go.RowKit Go.Deep
theorem arg_sized {H : Type} {enc : TypeId × Value → H} {P : Program} {W : World} {ts : List TypeId} {ds : List (DataW H)} (hsz : (DataW.weightsEach P ts ds).all (· ≤ reachBytes) = true) {j : Nat} {t e : TypeId} {d : DataW H} {p : List MemPlace} {A : Option Addr} {len cap : Nat}
    (ht : ts[j]? = some t) (hd : ds[j]? = some d) (hu : P.underlying t = some (.slice e)) (h : DataW.Trod enc P W 0 (fun _ => true) true t (.slice A len cap) d p) (h0 : 0 < P.bytesOf e) : len ≤ 140737488351232 := by
  obtain ⟨fuel, hf⟩ := h
  rcases open_slice hu hf with ⟨hcs, _⟩ | ⟨a, len', cap', m, n, D, Pl, hcs, hb, hl, hm, hmm, hx, _⟩
  · simp [Value.cells] at hcs; omega
  · have hdd := congrArg Prod.fst hx
    simp only at hdd
    subst hdd
    have := sized_slice hsz ht hd hu
    simp [Value.cells] at hcs
    simp only [if_true] at hmm
    simp only [List.length_map, List.length_range, reachBytes] at this
    have h2 : (len' + (m - len')) * 1 ≤ (len' + (m - len')) * P.bytesOf e := Nat.mul_le_mul_left _ h0
    omega
end Go.Proofs.Ytnhlbbomjdgjbaa
