/-
  limpetkit's SameBytes, EntriesOf, Pick: contracts.
-/
import Derived.Test.YtfglkpcboodllaaGreatDoorEnt4
import Derived.Deep.QuietTactic
import Derived.BigQuiet
set_option linter.unusedVariables false
set_option linter.unusedSimpArgs false
namespace Go.Proofs.YtfglkpcboodllaaGreatDoor
open Go.RowKit

/-- Entries and their bytes, counted. -/
def sizeE : List Ent → Nat
  | [] => 0
  | x :: l => 1 + x.bd.length + sizeE l
theorem sizeE_append (l m : List Ent) : sizeE (l ++ m) = sizeE l + sizeE m := by
  induction l with
  | nil => simp [sizeE]
  | cons x l ih => simp only [List.cons_append, sizeE, ih]; omega
theorem sizeE_take {l : List Ent} {k : Nat} {x : Ent} (hx : l[k]? = some x) : sizeE (l.take (k + 1)) = sizeE (l.take k) + 1 + x.bd.length := by
  rw [take_at hx, sizeE_append]; simp [sizeE]; omega
theorem sizeE_take_le (l : List Ent) (k : Nat) : sizeE (l.take k) ≤ sizeE l := by
  have h : sizeE (l.take k ++ l.drop k) = sizeE (l.take k) + sizeE (l.drop k) := sizeE_append _ _
  rw [List.take_append_drop] at h; omega
theorem sizeE_len (l : List Ent) : l.length ≤ sizeE l := by
  induction l with
  | nil => simp [sizeE]
  | cons x l ih => simp only [List.length_cons, sizeE]; omega
theorem sizeE_mem {l : List Ent} {x : Ent} (hx : x ∈ l) : x.bd.length < sizeE l := by
  induction l with
  | nil => cases hx
  | cons y l ih =>
    simp only [sizeE]
    rcases List.mem_cons.1 hx with rfl | hx
    · omega
    · have := ih hx; omega

/-- Entries counted: all of them, or more than the bound. -/
def CntPost (l : List Ent) (most : Nat) (w : World) (e : Ending) (w' : World) : Prop := ∃ n : Nat, e = .returned (.int .i64 n) ∧ (n = sizeE l ∨ most < n ∧ most < sizeE l) ∧ w = w'
theorem cnt_mk {l : List Ent} {most n : Nat} {w : World} (h : n = sizeE l ∨ most < n ∧ most < sizeE l) : CntPost l most w (.returned (.int .i64 n)) w := ⟨n, rfl, h, rfl⟩

set_option maxHeartbeats 1000000 in
theorem entriesOf (l : List Ent) (most : Nat) (v : Value) (w : World) (hl : Sl 4 entRow w.heap.size w v l) (hbig : ∀ x ∈ l, x.bd.length ≤ 140737488351232) (hm : most ≤ 1000000) :
    Calls Tryz.prog 50 #[v, .int .i64 most] w (CntPost l most w) := by
  obtain ⟨A, cap, rfl, hlc, hcm, -, hA⟩ := hl
  have hn : l.length ≤ 9223372036854775807 := by unfold maxLen at hcm; omega
  have HA := Lib.hid hA
  have HBG := Lib.hid hbig
  clear hcm hA hbig
  go_enter Tryz.func50, Tryz.ntmps50
  go_wp2_with fail
  go_loop [5, 6] (fun c i => ∃ k n : Nat, k ≤ l.length ∧ i = .int .i64 k ∧ c = .int .i64 n ∧ n = sizeE (l.take k) ∧ n ≤ 140737489351233) (fun _ i => l.length - (intOf i).toNat)
  case atStart => exact ⟨0, 0, by omega, rfl, rfl, rfl, by omega⟩
  case round =>
    obtain ⟨k, n, hk, rfl, rfl, hs, hn2⟩ := hrel
    by_cases hlt : k < l.length
    · obtain ⟨b, off, rfl, hb, hcell⟩ := HA.out (by intro h; subst h; simp at hlt)
      obtain ⟨x, hx⟩ : ∃ x, l[k]? = some x := ⟨_, List.getElem?_eq_getElem hlt⟩
      have c3 : w.cell? ⟨b, off + k * 4 + 3, none⟩ = _ := hcell k x hx 3 _ rfl
      have hxb := HBG.out x (List.mem_of_getElem? hx)
      have i0 : (0 : Int) ≤ (k : Int) := by omega
      have i1 : (k : Int) < (l.length : Int) := by omega
      have d0 : decide ((k : Int) < (l.length : Int)) = true := decide_eq_true i1
      have d0' : decide (k < l.length) = true := decide_eq_true hlt
      by_cases hmn : n ≤ most
      · have d1 : decide (n ≤ most) = true := decide_eq_true hmn
        have HS := Lib.hid (show n + 1 + x.bd.length = sizeE (l.take (k + 1)) by rw [sizeE_take hx, hs])
        clear hcell hx hs
        go_wp2_with fail
        go_round
        case rel => exact ⟨k + 1, n + 1 + x.bd.length, by omega, by go_num, by go_num, HS.out, by omega⟩
        case measure => simp [intOf]; omega
      · have d1 : decide (n ≤ most) = false := decide_eq_false hmn
        have HS := Lib.hid (show n = sizeE l ∨ most < n ∧ most < sizeE l from .inr ⟨by omega, by have := sizeE_take_le l k; omega⟩)
        clear hcell hx hs
        go_wp2_with fail
        go_ret
        exact cnt_mk HS.out
    · have hk' : k = l.length := by omega
      have d0 : decide (k < l.length) = false := decide_eq_false hlt
      have HS := Lib.hid (show n = sizeE l ∨ most < n ∧ most < sizeE l from .inl (by rw [hs, hk', List.take_length]))
      clear hk' hs
      go_wp2_with fail
      go_ret
      exact cnt_mk HS.out
end Go.Proofs.YtfglkpcboodllaaGreatDoor
