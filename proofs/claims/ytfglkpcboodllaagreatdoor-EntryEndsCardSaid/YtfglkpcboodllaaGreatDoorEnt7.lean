/-
  THE PACKAGE entry, 7: members' bytes: contracts.
-/
import Derived.Test.YtfglkpcboodllaaGreatDoorEnt4
set_option linter.unusedVariables false
set_option linter.unusedSimpArgs false
namespace Go.Proofs.YtfglkpcboodllaaGreatDoor
open Go.RowKit

theorem u8Info : (Tryz.prog.info? 5).map (fun i => (i.zero, i.size, i.bytes)) = some (some (.int .u8 0), 1, 1) := by kernel_rfl
/-- What Bytes tells: the bytes, or error 2. -/
def BytPost (ms : List Int) (w : World) (e : Ending) (w' : World) : Prop :=
  ∃ v', e = .returned (.tuple #[v', .int .i64 (if memRight ms then 0 else 2)]) ∧ (if memRight ms then Own 1 u8Row 5 w.heap.size w' v' ms ∧ v' ≠ .slice none 0 0 else v' = .slice none 0 0) ∧ Below w.heap.size w w'
theorem bytPost_yes {ms : List Int} {w w' : World} {v' : Value} (h : memRight ms = true) (ho : Own 1 u8Row 5 w.heap.size w' v' ms) (hv : v' ≠ .slice none 0 0) (hb : Below w.heap.size w w') : BytPost ms w (.returned (.tuple #[v', .int .i64 0])) w' :=
  ⟨v', by rw [h]; rfl, by rw [h]; exact ⟨ho, hv⟩, hb⟩
theorem bytPost_no {ms : List Int} {w : World} (h : memRight ms = false) : BytPost ms w (.returned (.tuple #[.slice none 0 0, .int .i64 2])) w :=
  ⟨_, by rw [h]; rfl, by rw [h]; rfl, Below.refl _ _⟩
theorem memFrom_at : ∀ {l : List Int} {q : Int} {k : Nat} {x : Int}, memFrom q l = true → l[k]? = some x → 1 ≤ x ∧ x ≤ 7 := by
  intro l
  induction l with
  | nil => intro q k x _ h; simp at h
  | cons y l ih =>
    intro q k x h hx
    have h' : (decide (1 ≤ y ∧ y ≤ 7 ∧ q < y) && memFrom y l) = true := h
    simp only [Bool.and_eq_true, decide_eq_true_eq] at h'
    cases k with
    | zero => simp at hx; subst hx; exact ⟨h'.1.1, h'.1.2.1⟩
    | succ k => exact ih h'.2 (by simpa using hx)
theorem memFrom_len : ∀ {l : List Int} {q : Int}, 0 ≤ q → memFrom q l = true → (l.length : Int) ≤ 7 - q ∨ l = [] := by
  intro l
  induction l with
  | nil => intro q _ _; exact .inr rfl
  | cons y l ih =>
    intro q hq h
    have h' : (decide (1 ≤ y ∧ y ≤ 7 ∧ q < y) && memFrom y l) = true := h
    simp only [Bool.and_eq_true, decide_eq_true_eq] at h'
    rcases ih (by omega) h'.2 with h1 | h1
    · left; simp only [List.length_cons]; omega
    · left; subst h1; simp; omega
theorem memRight_short {l : List Int} (h : memRight l = true) : l.length ≤ 7 := by
  simp only [memRight, Bool.and_eq_true] at h
  rcases memFrom_len (by omega) h.1 with h1 | h1
  · omega
  · subst h1; simp

set_option maxHeartbeats 1000000 in
theorem entBytes (ms : List Int) (v : Value) (w : World) (h : Sl 1 i64Row w.heap.size w v ms) :
    Calls Tryz.prog 63 #[v] w (BytPost ms w) := by
  have HSL := Lib.hid h
  obtain ⟨A, cap, rfl, hlc, hcm, -, hA⟩ := h
  have hn : ms.length ≤ 9223372036854775807 := by unfold maxLen at hcm; omega
  clear hcm
  have HA := Lib.hid hA
  clear hA
  cases hm : memRight ms with
  | false =>
    have HM := Lib.hid hm
    clear hm
    go_enter Tryz.func63, Tryz.ntmps63
    go_wp2_with (go_at_call 67; refine (entryRight ms _ _ HSL.out).mono ?_; rintro e w' ⟨rfl, rfl⟩; rw [HM.out])
    go_ret2
    exact bytPost_no HM.out
  | true =>
    have HM := Lib.hid hm
    have hs := memRight_short hm
    have hne : ms ≠ [] := by intro h; subst h; simp [memRight] at hm
    have HNE := Lib.hid hne
    clear hm hne
    go_enter Tryz.func63, Tryz.ntmps63
    go_wp2_with (go_at_call 67; refine (entryRight ms _ _ HSL.out).mono ?_; rintro e w' ⟨rfl, rfl⟩; rw [HM.out])
    go_loopw [2, 11] (fun o i wr => ∃ k : Nat, k ≤ ms.length ∧ i = .int .i64 k ∧ Own 1 u8Row 5 w.heap.size wr o (ms.take k) ∧ (o = .slice none 0 0 → k = 0) ∧ Below w.heap.size w wr) (fun _ i _ => ms.length - (intOf i).toNat)
    case atStart => exact ⟨0, by omega, rfl, Own.nil_ _ _ _ _ _, fun _ => rfl, Below.refl _ _⟩
    case round =>
      obtain ⟨k, hk, rfl, hown, hnn, hB⟩ := hrel
      by_cases hlt : k < ms.length
      · obtain ⟨bb, off, rfl, hbl, hcell⟩ := HA.out (by intro h; subst h; simp at hlt)
        obtain ⟨x, hx⟩ : ∃ x, ms[k]? = some x := ⟨_, List.getElem?_eq_getElem hlt⟩
        have c0 : wr.cell? ⟨bb, off + k, none⟩ = some (.int .i64 x) := by
          have := (hB.cell (p := ⟨bb, off + k * 1 + 0, none⟩) hbl).trans (hcell k x hx 0 _ rfl)
          simpa using this
        have hxb : 1 ≤ x ∧ x ≤ 7 := memFrom_at (by have := HM.out; simp only [memRight, Bool.and_eq_true] at this; exact this.1) hx
        obtain ⟨x0, x1⟩ := hxb
        have hwx : IntKind.u8.wrap x = x := by simp [IntKind.wrap, IntKind.signed, IntKind.bits]; omega
        have HX := Lib.hid hx
        have HO := Lib.hid hown
        have HB := Lib.hid hB
        have hz := hB.size
        have hle : (ms.take k).length ≤ 7 := by have := List.length_take_le k ms; omega
        have i0 : (0 : Int) ≤ (k : Int) := by omega
        have i1 : (k : Int) < (ms.length : Int) := by omega
        clear hcell hx hown hB hnn
        go_wp2_with (at_builtin; refine wpList_append_row _ rfl (.tmp 15) (.tmp 18) 26 rfl w.heap.size 5 _ 1 1 Tryz.underlying26 u8Info rfl (Nat.succ_pos 0) u8Row u8Row_length u8Row_one _ _ rfl HO.out x _ rfl 5 _ rfl rfl (by omega) (by omega) hz ?_; intro v' w' p1 p2 p3 p4 p5)
        have HP := Lib.hid p1
        have HB2 := Lib.hid (HB.out.trans p2)
        have HV := Lib.hid p5
        clear p1 p2 p3 p4 p5
        go_roundw
        case rel => exact ⟨k + 1, by omega, by go_num, by rw [take_at HX.out]; exact HP.out, fun h => absurd h HV.out, HB2.out⟩
        case measure => simp [intOf]; omega
      · have hk' : k = ms.length := by omega
        have HO := Lib.hid (show Own 1 u8Row 5 w.heap.size wr u2 ms by rw [hk', List.take_length] at hown; exact hown)
        have HV := Lib.hid (show u2 ≠ .slice none 0 0 from fun h => HNE.out (List.eq_nil_of_length_eq_zero (by have := hnn h; omega)))
        have HB := Lib.hid hB
        clear hk' hown hnn hB
        go_wp2_with fail
        go_ret2
        exact bytPost_yes HM.out HO.out HV.out HB.out
end Go.Proofs.YtfglkpcboodllaaGreatDoor
