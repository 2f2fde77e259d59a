/-
  THE PACKAGE term, 2: See, Start, and entry.Older.
-/
import Derived.Test.YtgbdnkmfinoopaaDoorTerm
set_option linter.unusedVariables false
namespace Go.Proofs.YtgbdnkmfinoopaaDoor
open Go.RowKit

set_option maxHeartbeats 400000 in
theorem tSee (m : Met) (term : Int) (w : World) : Calls Tryd.prog 9 #[.agg #[.int .i64 m.ver, .int .i64 m.trm, .int .i64 m.vot], .int .i64 term] w fun e w' =>
    e = .returned (.agg #[.int .i64 (seeM m term).ver, .int .i64 (seeM m term).trm, .int .i64 (seeM m term).vot]) ∧ Below w.heap.size w w' := by
  cases hr : metTurns m
  · have ht : seeM m term = m := by simp [seeM, hr]
    rw [ht]; clear ht
    have HR := Lib.hid hr
    clear hr
    go_enter Tryd.func9, Tryd.ntmps9
    go_wp2_with fail
    refine (tTurns m _).mono ?_
    rintro e w1 ⟨rfl, hb⟩
    rw [HR.out]
    obtain ⟨k1, f1, z1⟩ := (((Box.new w #[.int .i64 m.ver, .int .i64 m.trm, .int .i64 m.vot] 23).alloc (.cells #[.int .i64 0, .int .i64 0, .int .i64 0] 23)).later hb).facts
    obtain ⟨k2, f2, z2⟩ := ((Box.new (w.alloc (.cells #[.int .i64 m.ver, .int .i64 m.trm, .int .i64 m.vot] 23)) #[.int .i64 0, .int .i64 0, .int .i64 0] 23).later hb).facts
    simp only [World.size_alloc] at k2 f2 z2
    go_wp2_with fail
    refine bodyPost_ret (v := .agg #[.int .i64 m.ver, .int .i64 m.trm, .int .i64 m.vot]) (by simp [results, Tryd.results9, go_sem, k2]) rfl ⟨rfl, ?_⟩
    repeat refine below_set ?_ (by omega)
    exact below_call (below_call (below_new w _) (below_new _ _)) hb
  · by_cases h2 : m.trm < term
    · by_cases h3 : term ≤ 1099511627776
      · have ht : seeM m term = toM m term 0 := by simp [seeM, hr, h2, h3]
        rw [ht]; clear ht
        have HR := Lib.hid hr
        have hmr := metTurns_iff.1 hr
        clear hr
        go_enter Tryd.func9, Tryd.ntmps9
        go_wp2_with fail
        refine (tTurns m _).mono ?_
        rintro e w1 ⟨rfl, hb⟩
        rw [HR.out]
        have b1 := ((Box.new w #[.int .i64 m.ver, .int .i64 m.trm, .int .i64 m.vot] 23).alloc (.cells #[.int .i64 0, .int .i64 0, .int .i64 0] 23)).later hb
        have b2 := (Box.new (w.alloc (.cells #[.int .i64 m.ver, .int .i64 m.trm, .int .i64 m.vot] 23)) #[.int .i64 0, .int .i64 0, .int .i64 0] 23).later hb
        rw [World.size_alloc] at b2
        obtain ⟨k1, f1, z1⟩ := b1.facts
        obtain ⟨k2, f2, z2⟩ := b2.facts
        go_wp2_with fail
        refine (tTo _ m term 0 _ (Box.new w1 _ _) (by omega) (by omega)).mono ?_
        rintro e w2 ⟨rfl, hb2, hbut⟩
        have B2 := (b2.alloc (.cells #[.int .i64 m.ver, .int .i64 m.trm, .int .i64 m.vot] 54)).but hbut (by omega)
        obtain ⟨k3, f3, z3⟩ := hb2.facts
        obtain ⟨k4, f4, z4⟩ := B2.facts
        have HB : Hid (Below w.heap.size w w2) := (below_call (below_call (below_call (below_new w _) (below_new _ _)) hb) (below_new w1 _)).trans (hbut.below (by omega) (by simp; omega))
        clear k1 f1 z1 k2 f2 z2 b1 b2 hb hbut hb2 B2
        go_wp2_with fail
        refine bodyPost_ret (v := .agg #[.int .i64 (toM m term 0).ver, .int .i64 (toM m term 0).trm, .int .i64 (toM m term 0).vot]) (by simp [results, Tryd.results9, go_sem, k4]) rfl ⟨rfl, ?_⟩
        repeat refine below_set ?_ (by omega)
        exact HB.out
      · have ht : seeM m term = m := by simp [seeM, h3]
        rw [ht]; clear ht
        have HR := Lib.hid hr
        clear hr
        go_enter Tryd.func9, Tryd.ntmps9
        go_wp2_with fail
        refine (tTurns m _).mono ?_
        rintro e w1 ⟨rfl, hb⟩
        rw [HR.out]
        obtain ⟨k1, f1, z1⟩ := (((Box.new w #[.int .i64 m.ver, .int .i64 m.trm, .int .i64 m.vot] 23).alloc (.cells #[.int .i64 0, .int .i64 0, .int .i64 0] 23)).later hb).facts
        obtain ⟨k2, f2, z2⟩ := ((Box.new (w.alloc (.cells #[.int .i64 m.ver, .int .i64 m.trm, .int .i64 m.vot] 23)) #[.int .i64 0, .int .i64 0, .int .i64 0] 23).later hb).facts
        simp only [World.size_alloc] at k2 f2 z2
        go_wp2_with fail
        refine bodyPost_ret (v := .agg #[.int .i64 m.ver, .int .i64 m.trm, .int .i64 m.vot]) (by simp [results, Tryd.results9, go_sem, k2]) rfl ⟨rfl, ?_⟩
        repeat refine below_set ?_ (by omega)
        exact below_call (below_call (below_new w _) (below_new _ _)) hb
    · have ht : seeM m term = m := by simp [seeM, h2]
      rw [ht]; clear ht
      have HR := Lib.hid hr
      clear hr
      go_enter Tryd.func9, Tryd.ntmps9
      go_wp2_with fail
      refine (tTurns m _).mono ?_
      rintro e w1 ⟨rfl, hb⟩
      rw [HR.out]
      obtain ⟨k1, f1, z1⟩ := (((Box.new w #[.int .i64 m.ver, .int .i64 m.trm, .int .i64 m.vot] 23).alloc (.cells #[.int .i64 0, .int .i64 0, .int .i64 0] 23)).later hb).facts
      obtain ⟨k2, f2, z2⟩ := ((Box.new (w.alloc (.cells #[.int .i64 m.ver, .int .i64 m.trm, .int .i64 m.vot] 23)) #[.int .i64 0, .int .i64 0, .int .i64 0] 23).later hb).facts
      simp only [World.size_alloc] at k2 f2 z2
      go_wp2_with fail
      refine bodyPost_ret (v := .agg #[.int .i64 m.ver, .int .i64 m.trm, .int .i64 m.vot]) (by simp [results, Tryd.results9, go_sem, k2]) rfl ⟨rfl, ?_⟩
      repeat refine below_set ?_ (by omega)
      exact below_call (below_call (below_new w _) (below_new _ _)) hb

set_option maxHeartbeats 400000 in
theorem tOlder (a b : Idt) (w : World) : Calls Tryd.prog 16 #[.agg #[.int .i64 a.idx, .int .i64 a.trm, .int .i64 a.knd], .agg #[.int .i64 b.idx, .int .i64 b.trm, .int .i64 b.knd]] w fun e w' => e = .returned (.bool (olderB a b)) ∧ Below w.heap.size w w' := by
  by_cases h : a.trm = b.trm
  · have q : (a.trm != b.trm) = false := by simpa using h
    have ho : olderB a b = decide (a.idx < b.idx) := by simp [olderB, h]
    rw [ho]; clear ho h
    go_enter Tryd.func16, Tryd.ntmps16
    go_wp2
    go_ret
    exact ⟨rfl, below_call (below_new _ _) (below_new _ _)⟩
  · have q : (a.trm != b.trm) = true := by simpa using h
    have ho : olderB a b = decide (a.trm < b.trm) := by simp [olderB, h]
    rw [ho]; clear ho h
    go_enter Tryd.func16, Tryd.ntmps16
    go_wp2
    go_ret
    exact ⟨rfl, below_call (below_new _ _) (below_new _ _)⟩
end Go.Proofs.YtgbdnkmfinoopaaDoor
