/-
  The document's books (limpetref25), and the law's own refs, same, far: contracts.
-/
import Derived.Test.YtnhodaconlodbaaDoorKitInts
import Derived.Test.YtnhodaconlodbaaDoorLead3
import Derived.Deep.RegionHeld3
import Derived.Deep.AppendLies
namespace Go.Proofs.YtnhodaconlodbaaDoor
open Go.RowKit
set_option linter.unusedVariables false

theorem rbookInfo : (Tryd.prog.info? 67).map (fun i => (i.zero, i.size, i.bytes)) = some (some (.agg #[.int .i64 0, .int .i64 0, .int .i64 0, .int .i64 0]), 4, 32) := by kernel_rfl

set_option maxHeartbeats 1000000 in
theorem refsL (l : List Bk) (v : Value) (w : World) (h : Sl 4 bkRow w.heap.size w v l) (hn : l.length ≤ 1000000) :
    Calls Tryd.prog 33 #[v] w fun e w' => ∃ v', e = .returned v' ∧ Own 4 bkRow 67 w.heap.size w' v' l ∧ Below w.heap.size w w' := by
  obtain ⟨A, cap, rfl, hlc, hcm, -, hA⟩ := h
  clear hcm
  go_enter Tryd.func33, Tryd.ntmps33
  go_wp2_with fail
  go_loopw [3, 4] (fun v i wr => ∃ k : Nat, k ≤ l.length ∧ i = .int .i64 k ∧ Own 4 bkRow 67 w.heap.size wr v (l.take k) ∧ Below w.heap.size w wr) (fun _ i _ => l.length - (intOf i).toNat)
  case atStart => exact ⟨0, by omega, rfl, Own.nil_ _ _ _ _ _, Below.refl _ _⟩
  case round =>
    obtain ⟨k, hk, rfl, hown, hB⟩ := hrel
    by_cases hlt : k < l.length
    · obtain ⟨b, off, rfl, hb, hcell⟩ := hA (by intro h; subst h; simp at hlt)
      obtain ⟨x, hx⟩ : ∃ x, l[k]? = some x := ⟨_, List.getElem?_eq_getElem hlt⟩
      have c0 := (hB.cell (p := ⟨b, off + k * 4, none⟩) hb).trans (hcell k x hx 0 _ rfl)
      have c1 := (hB.cell (p := ⟨b, off + k * 4 + 1, none⟩) hb).trans (hcell k x hx 1 _ rfl)
      have c2 := (hB.cell (p := ⟨b, off + k * 4 + 2, none⟩) hb).trans (hcell k x hx 2 _ rfl)
      have c3 := (hB.cell (p := ⟨b, off + k * 4 + 3, none⟩) hb).trans (hcell k x hx 3 _ rfl)
      have i0 : (0 : Int) ≤ (k : Int) := by omega
      have i1 : (k : Int) < (l.length : Int) := by omega
      have hle : (l.take k).length ≤ 1000000 := by have := List.length_take_le k l; omega
      have HX := Lib.hid hx
      have HO := Lib.hid hown
      have HB := Lib.hid hB
      have hz := hB.size
      have HF : Hid (∀ w', Below w.heap.size w w' → w'.cell? ⟨b, off + k * 4, none⟩ = some (.int .i64 x.who) ∧ w'.cell? ⟨b, off + k * 4 + 1, none⟩ = some (.int .i64 x.next) ∧ w'.cell? ⟨b, off + k * 4 + 2, none⟩ = some (.int .i64 x.mat) ∧ w'.cell? ⟨b, off + k * 4 + 3, none⟩ = some (.int .i64 x.piece) ∧ Below w.heap.size w w') :=
        fun w' q => ⟨(q.cell (p := ⟨b, off + k * 4, none⟩) hb).trans (hcell k x hx 0 _ rfl), (q.cell (p := ⟨b, off + k * 4 + 1, none⟩) hb).trans (hcell k x hx 1 _ rfl), (q.cell (p := ⟨b, off + k * 4 + 2, none⟩) hb).trans (hcell k x hx 2 _ rfl), (q.cell (p := ⟨b, off + k * 4 + 3, none⟩) hb).trans (hcell k x hx 3 _ rfl), q⟩
      clear hcell hx hA hown hB
      go_wp2_with fail
      go_region_held3 (fun w' => w'.cell? ⟨b, off + k * 4, none⟩ = some (.int .i64 x.who) ∧ w'.cell? ⟨b, off + k * 4 + 1, none⟩ = some (.int .i64 x.next) ∧ w'.cell? ⟨b, off + k * 4 + 2, none⟩ = some (.int .i64 x.mat) ∧ w'.cell? ⟨b, off + k * 4 + 3, none⟩ = some (.int .i64 x.piece) ∧ Below w.heap.size w w')
        (first | exact HF.out _ HB.out.drew | exact HF.out _ (HB.out.alloc hz _).drew | exact HF.out _ ((HB.out.alloc hz _).drew.trans p2))
        ((refine step_append_row (by rfl) _ _ _ (by rfl) w.heap.size 67 _ 4 32 Tryd.underlying63 rbookInfo rfl (by omega) bkRow bkRow_length bkRow_one _ _ (by rfl) ((HO.out.alloc _).drew) x _ (by rfl) 67 wr.heap.size (by rfl) (heap_alloc_new wr _) (by omega) (by omega) (by simp; omega) ?_; intro g cp w2 p1 p2 p3))
      have HP := p1
      have HB2 := Lib.hid ((HB.out.alloc hz _).drew.trans p2)
      have hgl : (l.take k ++ [x]).length = k + 1 := by rw [List.length_append, List.length_take_of_le (by omega)]; rfl
      rw [hgl]
      rw [hgl] at HP
      have HP := Lib.hid HP
      clear p1 p2 p3 hgl
      go_wp2_with fail
      go_roundw
      case rel => exact ⟨k + 1, by omega, by go_num, by rw [take_at HX.out]; exact HP.out, HB2.out⟩
      case measure => simp [intOf]; omega
    · have hk' : k = l.length := by omega
      have HO := Lib.hid (show Own 4 bkRow 67 w.heap.size wr u3 l by rw [hk', List.take_length] at hown; exact hown)
      clear hown hk'
      go_wp2_with fail
      go_ret
      exact ⟨_, rfl, HO.out, hB⟩

def fndBk (l : List Bk) (who : Int) : Bk := (findBk l who).getD ⟨0, 0, 0, 0⟩

set_option maxHeartbeats 1000000 in
theorem rFind (who : Int) (l : List Bk) (v : Value) (w : World) (h : Sl 4 bkRow w.heap.size w v l) :
    Calls Tryd.prog 35 #[v, .int .i64 who] w fun e w' => e = .returned (.tuple #[.agg #[.int .i64 (fndBk l who).who, .int .i64 (fndBk l who).next, .int .i64 (fndBk l who).mat, .int .i64 (fndBk l who).piece], .bool (hasBk l who)]) ∧ Below w.heap.size w w' := by
  obtain ⟨A, cap, rfl, hlc, hcm, -, hA⟩ := h
  have hn : l.length ≤ 9223372036854775807 := by unfold maxLen at hcm; omega
  clear hcm
  go_enter Tryd.func35, Tryd.ntmps35
  go_wp2_with fail
  go_loop [6] (fun i => ∃ k : Nat, k ≤ l.length ∧ i = .int .i64 k ∧ NoneTo l who k) (fun i => l.length - (intOf i).toNat)
  case atStart => exact ⟨0, by omega, rfl, noneTo_zero⟩
  case round =>
    obtain ⟨k, hk, rfl, hno⟩ := hrel
    by_cases hlt : k < l.length
    · obtain ⟨b, off, rfl, hb, hcell⟩ := hA (by intro h; subst h; simp at hlt)
      obtain ⟨x, hx⟩ : ∃ x, l[k]? = some x := ⟨_, List.getElem?_eq_getElem hlt⟩
      have c0 := hcell k x hx 0 _ rfl
      have c1 := hcell k x hx 1 _ rfl
      have c2 := hcell k x hx 2 _ rfl
      have c3 := hcell k x hx 3 _ rfl
      have HX := Lib.hid hx
      have HN := Lib.hid hno
      clear hcell hx hA hno
      simp only [Nat.add_zero] at c0
      by_cases hw : x.who = who
      · have e1 : (x.who == who) = true := by simpa using hw
        have HF := Lib.hid (idxNat_found HN.out HX.out hw).2
        clear hw
        go_wp2_with fail
        refine bodyPost_ret (v := .tuple #[.agg #[.int .i64 x.who, .int .i64 x.next, .int .i64 x.mat, .int .i64 x.piece], .bool true]) (by simp [results, Tryd.results35, go_sem]) rfl ⟨?_, ?_⟩
        · simp [fndBk, hasBk, HF.out]
        · repeat refine below_set ?_ (Nat.le_refl _)
          exact below_new _ _
      · have e1 : (x.who == who) = false := by simpa using hw
        have HW := Lib.hid hw
        clear hw
        go_wp2_with fail
        go_round
        case rel => exact ⟨k + 1, by omega, by go_num, noneTo_succ HN.out HX.out HW.out⟩
        case measure => simp [intOf]; omega
    · have hk' : k = l.length := by omega
      have HF := Lib.hid (idxNat_none (by rw [← hk']; exact hno)).2
      clear hno hk'
      go_wp2_with fail
      refine bodyPost_ret (v := .tuple #[.agg #[.int .i64 0, .int .i64 0, .int .i64 0, .int .i64 0], .bool false]) (by simp [results, Tryd.results35, go_sem]) rfl ⟨?_, ?_⟩
      · simp [fndBk, hasBk, HF.out]
      · repeat refine below_set ?_ (Nat.le_refl _)
        exact below_new _ _

set_option maxHeartbeats 1000000 in
theorem sameBks (l : List Bk) (v v' : Value) (w : World) (h : Sl 4 bkRow w.heap.size w v l) (h' : Sl 4 bkRow w.heap.size w v' l) :
    Calls Tryd.prog 38 #[v, v'] w fun e w' => e = .returned (.bool true) ∧ ∃ n, w' = w.drewN n := by
  obtain ⟨A, cap, rfl, hlc, hcm, -, hA⟩ := h
  obtain ⟨A', cap', rfl, hlc', hcm', -, hA'⟩ := h'
  have hn : l.length ≤ 9223372036854775807 := by unfold maxLen at hcm; omega
  clear hcm hcm'
  go_enter Tryd.func38, Tryd.ntmps38
  go_wp2_with fail
  go_loopw [5] (fun i wr => ∃ k n : Nat, k ≤ l.length ∧ i = .int .i64 k ∧ wr = w.drewN n) (fun i _ => l.length - (intOf i).toNat)
  case atStart => exact ⟨0, 0, by omega, rfl, rfl⟩
  case round =>
    obtain ⟨k, n, hk, rfl, rfl⟩ := hrel
    by_cases hlt : k < l.length
    · obtain ⟨b, off, rfl, hb, hcell⟩ := hA (by intro h; subst h; simp at hlt)
      obtain ⟨b', off', rfl, hb', hcell'⟩ := hA' (by intro h; subst h; simp at hlt)
      obtain ⟨x, hx⟩ : ∃ x, l[k]? = some x := ⟨_, List.getElem?_eq_getElem hlt⟩
      have c0 := hcell k x hx 0 _ rfl
      have c1 := hcell k x hx 1 _ rfl
      have c2 := hcell k x hx 2 _ rfl
      have c3 := hcell k x hx 3 _ rfl
      have d0 := hcell' k x hx 0 _ rfl
      have d1 := hcell' k x hx 1 _ rfl
      have d2 := hcell' k x hx 2 _ rfl
      have d3 := hcell' k x hx 3 _ rfl
      simp only [Nat.add_zero] at c0 d0
      have i0 : (0 : Int) ≤ (k : Int) := by omega
      have i1 : (k : Int) < (l.length : Int) := by omega
      clear hcell hcell' hx hA hA'
      go_wp2_with fail
      go_quiet (fail)
      go_wp2_with fail
      go_roundw
      case rel => exact ⟨k + 1, _, by omega, by go_num, rfl⟩
      case measure => simp [intOf]; omega
    · go_wp2_with fail
      go_ret
      exact ⟨rfl, n, rfl⟩
end Go.Proofs.YtnhodaconlodbaaDoor
