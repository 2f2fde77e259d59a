/-
  ward's list: contract.
-/
import Derived.Test.YtnmlmnhgjnkbhaaWardKeys
import Derived.Test.YtnmlmnhgjnkbhaaWardFind
import Derived.Test.YtnmlmnhgjnkbhaaKitInts
set_option linter.unusedVariables false
set_option linter.unusedSimpArgs false
namespace Go.Proofs.Ytnmlmnhgjnkbhaa
open Go.RowKit

theorem wantInfo : (Try.prog.info? 41).map (fun i => (i.zero, i.size, i.bytes)) = some (some (.agg #[.int .i64 0, .int .i64 0, .int .i64 0]), 3, 24) := by kernel_rfl
theorem flat_enc (l : List Int) : l.flatMap i64Row = l.map encZ := by
  induction l with
  | nil => rfl
  | cons x l ih => rw [List.flatMap_cons, ih]; rfl
theorem listF_len (f : WMap) (ks : List Int) : (listF f ks).length ≤ ks.length := List.length_filterMap_le _ _
/-- What list tells of a map. -/
def ListPost (f : WMap) (n : Nat) (w : World) (e : Ending) (w' : World) : Prop :=
  ∃ v ks, e = .returned v ∧ Own 3 wntRow 41 w.heap.size w' v (listF f ks) ∧ ks.Pairwise (· < ·) ∧ (∀ m, m ∈ ks ↔ (f m).isSome = true) ∧ ks.length ≤ n ∧ Below w.heap.size w w'
set_option maxHeartbeats 2000000 in
theorem wardList (b n : Nat) (f : WMap) (w : World) (hm : MapW w b n f) (hn : n ≤ 100000) :
    Calls Try.prog 28 #[.map (some b)] w (ListPost f n w) := by
  have HM := Lib.hid hm
  have HC := Lib.hid (wardSorted b n f w hm hn)
  clear hm
  go_enter Try.func28, Try.ntmps28
  go_wp2_with (first
    | (go_at_call 39; (with_reducible refine (wardKeys _ _).mono ?_); rintro e w0 ⟨rfl, rfl⟩)
    | (go_at_call 38; (with_reducible refine HC.out.mono ?_); rintro e w1 ⟨v, ks, rfl, k1, k2, k3, k4, hrow, hb1⟩; have HK1 := Lib.hid k1; have HK2 := Lib.hid k2; have HK3 := Lib.hid k3; have HK4 := Lib.hid k4; have HB1 := Lib.hid hb1; have HKS := Lib.hid (Own.sl (row := i64Row) (show Own 1 i64Row 3 (w.heap.size + 1) w1 v ks by unfold Own; rw [flat_enc]; exact hrow) i64Row_length); clear k1 k2 k3 k4 hb1 hrow; obtain ⟨A, cap, rfl, hlc, hcm, -, hA⟩ := HKS.out; have HA := Lib.hid hA; clear hA))
  have hkn : ks.length ≤ 9223372036854775807 := by have := HK4.out; omega
  clear hlc hcm
  go_loopw [2, 9] (fun o i wr => ∃ (k : Nat) (ov : Value), ov = o ∧ k ≤ ks.length ∧ i = .int .i64 (k : Int) ∧ Own 3 wntRow 41 w1.heap.size wr ov (listF f (ks.take k)) ∧ Below w1.heap.size w1 wr) (fun _ i _ => ks.length - (iOf i).toNat)
  case atStart => exact ⟨0, _, rfl, by omega, rfl, Own.nil_ _ _ _ _ _, Below.refl _ _⟩
  case round =>
    obtain ⟨k, ov, rfl, hk, rfl, hown, hB⟩ := hrel
    have HO := Lib.hid hown
    have HB := Lib.hid hB
    clear hown hB
    have i0 : (0 : Int) ≤ (k : Int) := by omega
    by_cases hlt : k < ks.length
    · have i1 : (k : Int) < (ks.length : Int) := by omega
      have d0 : decide ((k : Int) < (ks.length : Int)) = true := decide_eq_true i1
      have d0' : decide (k < ks.length) = true := decide_eq_true hlt
      obtain ⟨b2, off, rfl, hb2, hcell⟩ := HA.out (by intro h; subst h; simp at hlt)
      obtain ⟨y, hy⟩ : ∃ y, ks[k]? = some y := ⟨_, List.getElem?_eq_getElem hlt⟩
      have c0 : wr.cell? ⟨b2, off + k, none⟩ = some (.int .i64 y) := by
        have := (HB.out.cell (p := ⟨b2, off + k * 1 + 0, none⟩) hb2).trans (hcell k y hy 0 _ rfl)
        simpa using this
      have hym : y ∈ ks := List.mem_of_getElem? hy
      obtain ⟨x, hx⟩ : ∃ x, f y = some x := Option.isSome_iff_exists.1 ((HK2.out y).1 hym)
      have hmr : MapW wr b n f := (HM.out.later HB1.out).later HB.out
      have hl := (hmr.look intK (t := 50) (e := 41) Try.underlying50 (wantZero wr) y (HK3.out y hym)).2
      rw [hx] at hl
      have hrun : (Instr.lookup 50 (.map (some b)) (.int .i64 y) false).run Try.prog wr = .ok (.agg #[.int .i64 x.blk, .int .i64 x.knd, .int .i64 x.num]) wr := hl
      have HR := Lib.hid (listF_at hy hx)
      have hz := HB.out.size
      have hll : (listF f (ks.take k)).length ≤ 100000 := by have h1 := listF_len f (ks.take k); have h2 := List.length_take_le k ks; have h3 := HK4.out; omega
      clear hcell hy hym hx hmr hl
      go_wp2_with (at_builtin; refine wpList_append_row _ rfl (.tmp 13) (.tmp 17) 22 rfl w1.heap.size 41 _ 3 24 Try.underlying22 wantInfo rfl (Nat.succ_pos 2) wntRow wntRow_length wntRow_one _ _ rfl HO.out x _ rfl 41 _ rfl rfl (by omega) (by omega) hz ?_; intro v' w' p1 p2 p3 p4 p5)
      have P1 := Lib.hid p1
      have P2 := Lib.hid p2
      clear p1 p2 p3 p4 p5
      go_roundw
      case rel => exact ⟨k + 1, _, rfl, by omega, by go_num, by rw [HR.out]; exact P1.out, HB.out.trans P2.out⟩
      case measure => simp [iOf]; omega
    · have d0 : decide ((k : Int) < (ks.length : Int)) = false := decide_eq_false (by omega)
      have d0' : decide (k < ks.length) = false := decide_eq_false hlt
      have hke : k = ks.length := by omega
      have HF := Lib.hid (show Own 3 wntRow 41 w1.heap.size wr ov (listF f ks) by have h := HO.out; rw [hke, List.take_length] at h; exact h)
      clear hke
      go_wp2_with fail
      go_ret
      exact ⟨_, ks, rfl, HF.out.less HB1.out.size, HK1.out, HK2.out, HK4.out, HB1.out.trans (HB.out.mono HB1.out.size)⟩
end Go.Proofs.Ytnmlmnhgjnkbhaa
