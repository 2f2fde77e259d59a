/-
  ward's Find: contract.
-/
import Derived.Test.YtnmlmnhgjnkbhaaWard2
import Derived.Deep.RegionHeld3
import Derived.Deep.DeepCutAuto
set_option linter.unusedVariables false
set_option linter.unusedSimpArgs false
namespace Go.Proofs.Ytnmlmnhgjnkbhaa
open Go.RowKit

theorem bodyPost_boxW {P : Program} {f : Func} {Q : Ending → World → Prop} {x : Exit} {a : Act} {W w : World} {g B : Nat} {cs : Array Value} {t : TypeId} (hb : Box W g cs t) (hB : Below B w W) (k : ∀ W', Box W' g cs t → Below B w W' → bodyPost P f Q x a W') : bodyPost P f Q x a W := k W hb hB
theorem below_set3 {B : Nat} {a w : World} {n : Nat} (h : Below B a w) (hn : B ≤ n) (x y z : Value) : Below B a (((w.setCell ⟨n, 0, none⟩ x).setCell ⟨n, 1, none⟩ y).setCell ⟨n, 2, none⟩ z) := below_set (below_set (below_set h hn) hn) hn
theorem Box.set3w {w : World} {n : Nat} {a b c : Value} {t : TypeId} (h : Box w n #[a, b, c] t) (x y z : Value) : Box (((w.setCell ⟨n, 0, none⟩ x).setCell ⟨n, 1, none⟩ y).setCell ⟨n, 2, none⟩ z) n #[x, y, z] t := ((h.set_ 0 x).set_ 1 y).set_ 2 z
theorem wardMake (w : World) : (Instr.makeMap 50 none).run Try.prog w = .ok (.map (some w.heap.size)) (w.alloc (.map #[] 0)) := by
  rfl
/-- What is found, and the error. -/
def findR (l : List Wnt) (n : Int) : Wnt × Int := if rightW l = true then (match findW l n with | some x => (x, 0) | none => (⟨0, 0, 0⟩, 7)) else (⟨0, 0, 0⟩, 2)
theorem wantZero (w : World) : (zeroValue 41).run Try.prog w = .ok (wntV ⟨0, 0, 0⟩) w := by kernel_rfl
set_option maxHeartbeats 2000000 in
theorem wardFind (l : List Wnt) (v : Value) (n : Int) (w : World) (h : Sl 3 wntRow w.heap.size w v l) (hin : ∀ x ∈ l, J64 x.blk) (hn : l.length ≤ 100000) (hj : J64 n) :
    Calls Try.prog 20 #[v, .int .i64 n] w fun e w' => e = .returned (.tuple #[wntV (findR l n).1, .int .i64 (findR l n).2]) ∧ Below w.heap.size w w' := by
  obtain ⟨A, cap, rfl, -⟩ := id h
  have HXz := Lib.hid (Box.new w #[.int .i64 0, .int .i64 0, .int .i64 0] 41)
  have HB0 := Lib.hid (below_new w (.cells #[.int .i64 0, .int .i64 0, .int .i64 0] 41))
  obtain ⟨W, hW⟩ : ∃ W, W = w.alloc (.cells #[.int .i64 0, .int .i64 0, .int .i64 0] 41) := ⟨_, rfl⟩
  have HE := Lib.hid hW
  rw [← hW] at HXz HB0
  have HS := Lib.hid (h.later HB0.out)
  have HIN := Lib.hid hin
  have hzW : W.heap.size = w.heap.size + 1 := by rw [hW]; simp
  have HC := Lib.hid (wardWrong l _ W (h.later HB0.out))
  clear h hin hW
  have hmk := wardMake
  cases hr : rightW l with
  | false =>
    rw [hr] at HC
    have HF := Lib.hid (show findR l n = (⟨0, 0, 0⟩, 2) by unfold findR; rw [hr]; rfl)
    clear hr
    go_enter Try.func20, Try.ntmps20
    go_upto_region 1 with fail
    rw [← HE.out]
    go_wp2_with (go_at_call 25; (with_reducible refine HC.out.mono ?_); rintro e w1 ⟨rfl, hb1⟩; obtain ⟨k1, f1, z1⟩ := (HXz.out.later hb1).facts)
    refine bodyPost_boxW ((HXz.out.later hb1).set3w _ _ _) (below_set3 (below_call HB0.out hb1) (n := w.heap.size) (Nat.le_refl _) _ _ _) ?_
    intro wz hz1 hz2
    obtain ⟨kz, -, -⟩ := hz1.facts
    exact bodyPost_ret (v := .tuple #[.agg #[.int .i64 0, .int .i64 0, .int .i64 0], .int .i64 2]) (by simp [results, Try.results20, go_sem, kz]) rfl ⟨by rw [HF.out]; rfl, hz2⟩
  | true =>
    rw [hr] at HC
    have HRI := Lib.hid (rightW_iff.1 hr).1
    have HP : Hid (∀ w1, Below W.heap.size W w1 → Calls Try.prog 27 #[.map (some w1.heap.size), .slice A l.length cap] (w1.alloc (.map #[] 0)) fun e w' => e = .returned (.map (some w1.heap.size)) ∧ (Instr.lookup 50 (.map (some w1.heap.size)) (.int .i64 n) true).run Try.prog w' = .ok (.tuple #[wntV ((findW l n).getD ⟨0, 0, 0⟩), .bool (findW l n).isSome]) w' ∧ Below w1.heap.size w1 w') := fun w1 hb1 => by
      have hba := below_new w1 (.map #[] 0)
      refine (wardPut w1.heap.size w1.heap.size 0 (fun _ => none) l _ _ ((HS.out.later hb1).below hba) HIN.out (MapAt.made w1 _ _) (Nat.le_refl _) (by omega)).mono ?_
      rintro e w' ⟨he, hm, hb⟩
      have hl := (hm.look intK (t := 50) (e := 41) Try.underlying50 (wantZero w') n hj).1
      rw [putF_ris HRI.out] at hl
      exact ⟨he, hl, hba.trans hb⟩
    cases hf : findW l n with
    | none =>
      have HF := Lib.hid (show findR l n = (⟨0, 0, 0⟩, 7) by unfold findR; rw [hr, hf]; rfl)
      rw [hf] at HP
      clear hr hf
      go_enter Try.func20, Try.ntmps20
      go_upto_region 1 with fail
      rw [← HE.out]
      go_wp2_with (first
        | (go_at_call 25; (with_reducible refine HC.out.mono ?_); rintro e w1 ⟨rfl, hb1⟩; have H1 := Lib.hid hb1; clear hb1)
        | (go_at_call 27; (with_reducible refine (HP.out w1 H1.out).mono ?_); rintro e w2 ⟨rfl, hlk, hb2⟩; simp only [wntV, Option.getD_none, Option.isSome_none] at hlk; have H2 := Lib.hid (below_call H1.out hb2); clear hb2; obtain ⟨k1, f1, z1⟩ := (HXz.out.later H2.out).facts))
      refine bodyPost_boxW (((HXz.out.later H2.out).set3w _ _ _).alloc _) (below_call (below_set3 (below_call HB0.out H2.out) (n := w.heap.size) (Nat.le_refl _) _ _ _) (below_new _ _)) ?_
      intro wz hz1 hz2
      obtain ⟨kz, -, -⟩ := hz1.facts
      exact bodyPost_ret (v := .tuple #[.agg #[.int .i64 0, .int .i64 0, .int .i64 0], .int .i64 7]) (by simp [results, Try.results20, go_sem, kz]) rfl ⟨by rw [HF.out]; rfl, hz2⟩
    | some x =>
      have HF := Lib.hid (show findR l n = (x, 0) by unfold findR; rw [hr, hf]; rfl)
      rw [hf] at HP
      clear hr hf
      go_enter Try.func20, Try.ntmps20
      go_upto_region 1 with fail
      rw [← HE.out]
      go_wp2_with (first
        | (go_at_call 25; (with_reducible refine HC.out.mono ?_); rintro e w1 ⟨rfl, hb1⟩; have H1 := Lib.hid hb1; clear hb1)
        | (go_at_call 27; (with_reducible refine (HP.out w1 H1.out).mono ?_); rintro e w2 ⟨rfl, hlk, hb2⟩; simp only [wntV, Option.getD_some, Option.isSome_some] at hlk; have H2 := Lib.hid (below_call H1.out hb2); clear hb2; obtain ⟨k1, f1, z1⟩ := (HXz.out.later H2.out).facts))
      refine bodyPost_boxW (((HXz.out.later H2.out).set3w _ _ _).alloc _) (below_call (below_set3 (below_call HB0.out H2.out) (n := w.heap.size) (Nat.le_refl _) _ _ _) (below_new _ _)) ?_
      intro wz hz1 hz2
      obtain ⟨kz, -, -⟩ := hz1.facts
      exact bodyPost_ret (v := .tuple #[.agg #[.int .i64 x.blk, .int .i64 x.knd, .int .i64 x.num], .int .i64 0]) (by simp [results, Try.results20, go_sem, kz]) rfl ⟨by rw [HF.out]; rfl, hz2⟩
end Go.Proofs.Ytnmlmnhgjnkbhaa
