/-
  heal.of, Give's closure, slices.IndexFunc over it: contracts.
-/
import Derived.Test.YtglkgmijhdkhpaaGreatDoorHt5
import Derived.Test.YtglkgmijhdkhpaaGreatDoorHt6
set_option linter.unusedVariables false
set_option linter.unusedSimpArgs false
namespace Go.Proofs.YtglkgmijhdkhpaaGreatDoor
open Go.RowKit

def kfOf : Value → Int | .int _ q => q | _ => 0
theorem bodyPost_boxH {P : Program} {f : Func} {Q : Ending → World → Prop} {x : Exit} {a : Act} {W w : World} {g B : Nat} {cs : Array Value} {t : TypeId} (hb : Box W g cs t) (hB : Below B w W) (k : ∀ W', Box W' g cs t → Below B w W' → bodyPost P f Q x a W') : bodyPost P f Q x a W := k W hb hB
theorem Box.set7h {w : World} {n : Nat} {a b c d e f g : Value} {t : TypeId} (h : Box w n #[a, b, c, d, e, f, g] t) (x y z u v s r : Value) :
    Box (((((((w.setCell ⟨n, 0, none⟩ x).setCell ⟨n, 1, none⟩ y).setCell ⟨n, 2, none⟩ z).setCell ⟨n, 3, none⟩ u).setCell ⟨n, 4, none⟩ v).setCell ⟨n, 5, none⟩ s).setCell ⟨n, 6, none⟩ r) n #[x, y, z, u, v, s, r] t := by
  have h1 : Box (w.setCell ⟨n, 0, none⟩ x) n #[x, b, c, d, e, f, g] t := h.set_ 0 x
  have h2 : Box ((w.setCell ⟨n, 0, none⟩ x).setCell ⟨n, 1, none⟩ y) n #[x, y, c, d, e, f, g] t := h1.set_ 1 y
  have h3 : Box (((w.setCell ⟨n, 0, none⟩ x).setCell ⟨n, 1, none⟩ y).setCell ⟨n, 2, none⟩ z) n #[x, y, z, d, e, f, g] t := h2.set_ 2 z
  have h4 : Box ((((w.setCell ⟨n, 0, none⟩ x).setCell ⟨n, 1, none⟩ y).setCell ⟨n, 2, none⟩ z).setCell ⟨n, 3, none⟩ u) n #[x, y, z, u, e, f, g] t := h3.set_ 3 u
  have h5 : Box (((((w.setCell ⟨n, 0, none⟩ x).setCell ⟨n, 1, none⟩ y).setCell ⟨n, 2, none⟩ z).setCell ⟨n, 3, none⟩ u).setCell ⟨n, 4, none⟩ v) n #[x, y, z, u, v, f, g] t := h4.set_ 4 v
  have h6 : Box ((((((w.setCell ⟨n, 0, none⟩ x).setCell ⟨n, 1, none⟩ y).setCell ⟨n, 2, none⟩ z).setCell ⟨n, 3, none⟩ u).setCell ⟨n, 4, none⟩ v).setCell ⟨n, 5, none⟩ s) n #[x, y, z, u, v, s, g] t := h5.set_ 5 s
  exact h6.set_ 6 r
theorem below_set7h {B : Nat} {a w : World} {n : Nat} (h : Below B a w) (hn : B ≤ n) (x y z u v s r : Value) :
    Below B a (((((((w.setCell ⟨n, 0, none⟩ x).setCell ⟨n, 1, none⟩ y).setCell ⟨n, 2, none⟩ z).setCell ⟨n, 3, none⟩ u).setCell ⟨n, 4, none⟩ v).setCell ⟨n, 5, none⟩ s).setCell ⟨n, 6, none⟩ r) := below_set (below_set (below_set (below_set (below_set (below_set (below_set h hn) hn) hn) hn) hn) hn) hn
def HZ7 : Array Value := #[.int .i64 0, .int .i64 0, .int .i64 0, .slice none 0 0, .int .i64 0, .int .i64 0, .int .i64 0]

set_option maxRecDepth 100000 in
set_option maxHeartbeats 2000000 in
theorem healOf (r : Rec) (w : World) : Calls Tryz.prog 34 #[.agg #[.int .i64 r.e.idx, .int .i64 r.e.trm, .int .i64 r.e.knd, .slice r.e.ba r.e.bd.length r.e.bc, .int .i64 r.a.idx, .int .i64 r.a.trm, .int .i64 r.a.knd]] w fun e w' => e = .returned (.agg #[.int .i64 r.e.idx, .int .i64 r.e.trm, .int .i64 r.e.knd, .slice r.e.ba r.e.bd.length r.e.bc, .int .i64 r.a.idx, .int .i64 r.a.trm, .int .i64 r.a.knd]) ∧ Below w.heap.size w w' := by
  have HB0 := Lib.hid (below_call (below_new w (.cells #[.int .i64 r.e.idx, .int .i64 r.e.trm, .int .i64 r.e.knd, .slice r.e.ba r.e.bd.length r.e.bc, .int .i64 r.a.idx, .int .i64 r.a.trm, .int .i64 r.a.knd] 56)) (below_new _ (.cells #[.int .i64 0, .int .i64 0, .int .i64 0, .slice none 0 0, .int .i64 0, .int .i64 0, .int .i64 0] 66)))
  have HX := Lib.hid ((Box.new w #[.int .i64 r.e.idx, .int .i64 r.e.trm, .int .i64 r.e.knd, .slice r.e.ba r.e.bd.length r.e.bc, .int .i64 r.a.idx, .int .i64 r.a.trm, .int .i64 r.a.knd] 56).alloc (.cells #[.int .i64 0, .int .i64 0, .int .i64 0, .slice none 0 0, .int .i64 0, .int .i64 0, .int .i64 0] 66))
  have HR := Lib.hid (show Box ((w.alloc (.cells #[.int .i64 r.e.idx, .int .i64 r.e.trm, .int .i64 r.e.knd, .slice r.e.ba r.e.bd.length r.e.bc, .int .i64 r.a.idx, .int .i64 r.a.trm, .int .i64 r.a.knd] 56)).alloc (.cells #[.int .i64 0, .int .i64 0, .int .i64 0, .slice none 0 0, .int .i64 0, .int .i64 0, .int .i64 0] 66)) (w.heap.size + 1) #[.int .i64 0, .int .i64 0, .int .i64 0, .slice none 0 0, .int .i64 0, .int .i64 0, .int .i64 0] 66 by
    have h := Box.new (w.alloc (.cells #[.int .i64 r.e.idx, .int .i64 r.e.trm, .int .i64 r.e.knd, .slice r.e.ba r.e.bd.length r.e.bc, .int .i64 r.a.idx, .int .i64 r.a.trm, .int .i64 r.a.knd] 56)) #[.int .i64 0, .int .i64 0, .int .i64 0, .slice none 0 0, .int .i64 0, .int .i64 0, .int .i64 0] 66
    rw [World.size_alloc] at h; exact h)
  obtain ⟨W, hW⟩ : ∃ z, z = (w.alloc (.cells #[.int .i64 r.e.idx, .int .i64 r.e.trm, .int .i64 r.e.knd, .slice r.e.ba r.e.bd.length r.e.bc, .int .i64 r.a.idx, .int .i64 r.a.trm, .int .i64 r.a.knd] 56)).alloc (.cells #[.int .i64 0, .int .i64 0, .int .i64 0, .slice none 0 0, .int .i64 0, .int .i64 0, .int .i64 0] 66) := ⟨_, rfl⟩
  have HE := Lib.hid hW
  rw [← hW] at HB0 HX HR
  obtain ⟨kx, fx, zx⟩ := HX.out.facts
  obtain ⟨kr, fr, zr⟩ := HR.out.facts
  clear hW
  go_enter Tryz.func34, Tryz.ntmps34
  go_upto_region 1 with fail
  rw [← HE.out]
  go_wp2_with fail
  refine bodyPost_boxH (HR.out.set7h _ _ _ _ _ _ _) (below_set7h HB0.out (n := w.heap.size + 1) (by omega) _ _ _ _ _ _ _) ?_
  intro wz hz1 hz2
  obtain ⟨kz, -, -⟩ := hz1.facts
  exact bodyPost_ret (v := .agg #[.int .i64 r.e.idx, .int .i64 r.e.trm, .int .i64 r.e.knd, .slice r.e.ba r.e.bd.length r.e.bc, .int .i64 r.a.idx, .int .i64 r.a.trm, .int .i64 r.a.knd]) (by simp [results, Tryz.results34, go_sem, kz]) rfl ⟨rfl, hz2⟩

set_option maxRecDepth 100000 in
set_option maxHeartbeats 4000000 in
theorem giveFn (gp : Nat) (p : Idt) (r : Rec) (w : World) (hp : Box w gp #[.int .i64 p.idx, .int .i64 p.trm, .int .i64 p.knd] 42) (hin : EntIn w.heap.size w r.e) (hI : H64 r.e.idx) (hG : errTypeIs w) :
    Calls Tryz.prog 33 #[.agg #[.int .i64 r.e.idx, .int .i64 r.e.trm, .int .i64 r.e.knd, .slice r.e.ba r.e.bd.length r.e.bc, .int .i64 r.a.idx, .int .i64 r.a.trm, .int .i64 r.a.knd], .pointer (some ⟨gp, 0, none⟩)] w fun e w' => e = .returned (.bool (fitR p r)) ∧ Below w.heap.size w w' := by
  have HB0 := Lib.hid (below_call (below_new w (.cells #[.int .i64 r.e.idx, .int .i64 r.e.trm, .int .i64 r.e.knd, .slice r.e.ba r.e.bd.length r.e.bc, .int .i64 r.a.idx, .int .i64 r.a.trm, .int .i64 r.a.knd] 56)) (below_new _ (.cells #[.int .i64 0, .nilIface] 64)))
  have HX := Lib.hid ((Box.new w #[.int .i64 r.e.idx, .int .i64 r.e.trm, .int .i64 r.e.knd, .slice r.e.ba r.e.bd.length r.e.bc, .int .i64 r.a.idx, .int .i64 r.a.trm, .int .i64 r.a.knd] 56).alloc (.cells #[.int .i64 0, .nilIface] 64))
  have HR := Lib.hid (show Box ((w.alloc (.cells #[.int .i64 r.e.idx, .int .i64 r.e.trm, .int .i64 r.e.knd, .slice r.e.ba r.e.bd.length r.e.bc, .int .i64 r.a.idx, .int .i64 r.a.trm, .int .i64 r.a.knd] 56)).alloc (.cells #[.int .i64 0, .nilIface] 64)) (w.heap.size + 1) #[.int .i64 0, .nilIface] 64 by
    have h := Box.new (w.alloc (.cells #[.int .i64 r.e.idx, .int .i64 r.e.trm, .int .i64 r.e.knd, .slice r.e.ba r.e.bd.length r.e.bc, .int .i64 r.a.idx, .int .i64 r.a.trm, .int .i64 r.a.knd] 56)) #[.int .i64 0, .nilIface] 64
    rw [World.size_alloc] at h; exact h)
  have HPW := Lib.hid (hp.later HB0.out)
  obtain ⟨W, hW⟩ : ∃ z, z = (w.alloc (.cells #[.int .i64 r.e.idx, .int .i64 r.e.trm, .int .i64 r.e.knd, .slice r.e.ba r.e.bd.length r.e.bc, .int .i64 r.a.idx, .int .i64 r.a.trm, .int .i64 r.a.knd] 56)).alloc (.cells #[.int .i64 0, .nilIface] 64) := ⟨_, rfl⟩
  have HE := Lib.hid hW
  have hzW : W.heap.size = w.heap.size + 2 := by rw [hW]; simp
  rw [← hW] at HB0 HX HR HPW
  have HIN := Lib.hid (hin.later HB0.out)
  have HGW := Lib.hid (errType_later hG HB0.out)
  have HI := Lib.hid hI
  clear hW hp hin hG hI
  have CO : Hid (∀ x5 : Ext W, Calls Tryz.prog 34 #[.agg #[.int .i64 r.e.idx, .int .i64 r.e.trm, .int .i64 r.e.knd, .slice r.e.ba r.e.bd.length r.e.bc, .int .i64 r.a.idx, .int .i64 r.a.trm, .int .i64 r.a.knd]] x5.wd fun e w' => e = .returned (.agg #[.int .i64 r.e.idx, .int .i64 r.e.trm, .int .i64 r.e.knd, .slice r.e.ba r.e.bd.length r.e.bc, .int .i64 r.a.idx, .int .i64 r.a.trm, .int .i64 r.a.knd]) ∧ Below x5.wd.heap.size x5.wd w') := fun x5 => healOf r x5.wd
  have CF : Hid (∀ x5 : Ext W, Calls Tryz.prog 35 #[.agg #[.int .i64 r.e.idx, .int .i64 r.e.trm, .int .i64 r.e.knd, .slice r.e.ba r.e.bd.length r.e.bc, .int .i64 r.a.idx, .int .i64 r.a.trm, .int .i64 r.a.knd], .agg #[.int .i64 p.idx, .int .i64 p.trm, .int .i64 p.knd]] x5.wd fun e w' => e = .returned (fitV p r) ∧ Below x5.wd.heap.size x5.wd w') := fun x5 => healFits r p x5.wd (HIN.out.later x5.low) HI.out
  rcases fitV_cases p r with ⟨hf, hv⟩ | ⟨hf, n, hv⟩ | ⟨hf, n, hv⟩
  · rw [hv] at CF
    have HF := Lib.hid hf
    clear hv hf
    have g0 : ∀ x : Ext W, x.wd.cell? ⟨w.heap.size, 0, none⟩ = some (.int .i64 r.e.idx) := HX.out.ext 0
    have g1 : ∀ x : Ext W, x.wd.cell? ⟨w.heap.size, 1, none⟩ = some (.int .i64 r.e.trm) := HX.out.ext 1
    have g2 : ∀ x : Ext W, x.wd.cell? ⟨w.heap.size, 2, none⟩ = some (.int .i64 r.e.knd) := HX.out.ext 2
    have g3 : ∀ x : Ext W, x.wd.cell? ⟨w.heap.size, 3, none⟩ = some (.slice r.e.ba r.e.bd.length r.e.bc) := HX.out.ext 3
    have g4 : ∀ x : Ext W, x.wd.cell? ⟨w.heap.size, 4, none⟩ = some (.int .i64 r.a.idx) := HX.out.ext 4
    have g5 : ∀ x : Ext W, x.wd.cell? ⟨w.heap.size, 5, none⟩ = some (.int .i64 r.a.trm) := HX.out.ext 5
    have g6 : ∀ x : Ext W, x.wd.cell? ⟨w.heap.size, 6, none⟩ = some (.int .i64 r.a.knd) := HX.out.ext 6
    have p0 : ∀ x : Ext W, x.wd.cell? ⟨gp, 0, none⟩ = some (.int .i64 p.idx) := HPW.out.ext 0
    have p1 : ∀ x : Ext W, x.wd.cell? ⟨gp, 1, none⟩ = some (.int .i64 p.trm) := HPW.out.ext 1
    have p2 : ∀ x : Ext W, x.wd.cell? ⟨gp, 2, none⟩ = some (.int .i64 p.knd) := HPW.out.ext 2
    go_enter Tryz.func33, Tryz.ntmps33
    go_upto_region 2 with fail
    rw [← HE.out]
    refine wp_region_ext (by kernel_rfl) (by kernel_rfl) ?_
    repeat (go_big_quiet_step ((rename_i x5; first
      | (go_at_call 34; exact ext_of x5 (CO.out x5))
      | (go_at_call 35; exact ext_of x5 (CF.out x5)))))
    refine wpQuiet_nil ?_
    intro _ hw'
    obtain ⟨x6, hw''⟩ := hw'
    subst hw''
    have H6 := Lib.hid x6.low
    have HR6 := Lib.hid (HR.out.later x6.low)
    have HG6 := Lib.hid (errType_later HGW.out x6.low)
    obtain ⟨V, hV⟩ : ∃ z, z = x6.wd := ⟨_, rfl⟩
    rw [← hV] at H6 HR6 HG6
    rw [← hV]
    clear hV g0 g1 g2 g3 g4 g5 g6 p0 p1 p2 CO CF
    go_wp2_with (first
      | (go_at_call 36; (with_reducible refine (HeaE.is_nil 2 V).mono ?_); rintro e w7 ⟨rfl, rfl⟩)
      | (go_at_call 37; (with_reducible refine (HeaE.as_nil _ V).mono ?_); rintro e w8 ⟨rfl, rfl⟩))
    go_ret
    exact ⟨ret_bool HF.out.symm, below_call HB0.out H6.out⟩
  · rw [hv] at CF
    have HF := Lib.hid hf
    clear hv hf
    simp only [refuV] at CF
    have g0 : ∀ x : Ext W, x.wd.cell? ⟨w.heap.size, 0, none⟩ = some (.int .i64 r.e.idx) := HX.out.ext 0
    have g1 : ∀ x : Ext W, x.wd.cell? ⟨w.heap.size, 1, none⟩ = some (.int .i64 r.e.trm) := HX.out.ext 1
    have g2 : ∀ x : Ext W, x.wd.cell? ⟨w.heap.size, 2, none⟩ = some (.int .i64 r.e.knd) := HX.out.ext 2
    have g3 : ∀ x : Ext W, x.wd.cell? ⟨w.heap.size, 3, none⟩ = some (.slice r.e.ba r.e.bd.length r.e.bc) := HX.out.ext 3
    have g4 : ∀ x : Ext W, x.wd.cell? ⟨w.heap.size, 4, none⟩ = some (.int .i64 r.a.idx) := HX.out.ext 4
    have g5 : ∀ x : Ext W, x.wd.cell? ⟨w.heap.size, 5, none⟩ = some (.int .i64 r.a.trm) := HX.out.ext 5
    have g6 : ∀ x : Ext W, x.wd.cell? ⟨w.heap.size, 6, none⟩ = some (.int .i64 r.a.knd) := HX.out.ext 6
    have p0 : ∀ x : Ext W, x.wd.cell? ⟨gp, 0, none⟩ = some (.int .i64 p.idx) := HPW.out.ext 0
    have p1 : ∀ x : Ext W, x.wd.cell? ⟨gp, 1, none⟩ = some (.int .i64 p.trm) := HPW.out.ext 1
    have p2 : ∀ x : Ext W, x.wd.cell? ⟨gp, 2, none⟩ = some (.int .i64 p.knd) := HPW.out.ext 2
    go_enter Tryz.func33, Tryz.ntmps33
    go_upto_region 2 with fail
    rw [← HE.out]
    refine wp_region_ext (by kernel_rfl) (by kernel_rfl) ?_
    repeat (go_big_quiet_step ((rename_i x5; first
      | (go_at_call 34; exact ext_of x5 (CO.out x5))
      | (go_at_call 35; exact ext_of x5 (CF.out x5)))))
    refine wpQuiet_nil ?_
    intro _ hw'
    obtain ⟨x6, hw''⟩ := hw'
    subst hw''
    have H6 := Lib.hid x6.low
    have HR6 := Lib.hid (HR.out.later x6.low)
    have HG6 := Lib.hid (errType_later HGW.out x6.low)
    obtain ⟨V, hV⟩ : ∃ z, z = x6.wd := ⟨_, rfl⟩
    rw [← hV] at H6 HR6 HG6
    rw [← hV]
    clear hV g0 g1 g2 g3 g4 g5 g6 p0 p1 p2 CO CF
    have CI : Hid (Calls Tryz.prog 36 #[.iface 64 (.agg #[.int .i64 n, .iface 70 (.int .i64 1)]), .iface 70 (.int .i64 2)] V fun e w' => e = .returned (.bool false) ∧ Below V.heap.size V w') := HeaE.is_wrap n 1 2 V
    go_wp2_with (first
      | (go_at_call 36; (with_reducible refine CI.out.mono ?_); rintro e w7 ⟨rfl, hb7⟩; have H7 := Lib.hid (below_call H6.out hb7); have HR7 := Lib.hid (HR6.out.later hb7); have HG7 := Lib.hid (errType_later HG6.out hb7); clear hb7)
      | (go_at_call 37; (with_reducible refine (HeaE.as_direct (w.heap.size + 1) n 1 _ _ w7 HG7.out HR7.out).mono ?_); rintro e w8 ⟨rfl, -, hbut⟩; have HB8 := Lib.hid (hbut.below (B := w.heap.size) (by omega) (by have := H7.out.size; omega)); clear hbut))
    go_ret
    exact ⟨ret_bool HF.out.symm, (below_call HB0.out H7.out).trans HB8.out⟩
  · rw [hv] at CF
    have HF := Lib.hid hf
    clear hv hf
    simp only [refuV] at CF
    have g0 : ∀ x : Ext W, x.wd.cell? ⟨w.heap.size, 0, none⟩ = some (.int .i64 r.e.idx) := HX.out.ext 0
    have g1 : ∀ x : Ext W, x.wd.cell? ⟨w.heap.size, 1, none⟩ = some (.int .i64 r.e.trm) := HX.out.ext 1
    have g2 : ∀ x : Ext W, x.wd.cell? ⟨w.heap.size, 2, none⟩ = some (.int .i64 r.e.knd) := HX.out.ext 2
    have g3 : ∀ x : Ext W, x.wd.cell? ⟨w.heap.size, 3, none⟩ = some (.slice r.e.ba r.e.bd.length r.e.bc) := HX.out.ext 3
    have g4 : ∀ x : Ext W, x.wd.cell? ⟨w.heap.size, 4, none⟩ = some (.int .i64 r.a.idx) := HX.out.ext 4
    have g5 : ∀ x : Ext W, x.wd.cell? ⟨w.heap.size, 5, none⟩ = some (.int .i64 r.a.trm) := HX.out.ext 5
    have g6 : ∀ x : Ext W, x.wd.cell? ⟨w.heap.size, 6, none⟩ = some (.int .i64 r.a.knd) := HX.out.ext 6
    have p0 : ∀ x : Ext W, x.wd.cell? ⟨gp, 0, none⟩ = some (.int .i64 p.idx) := HPW.out.ext 0
    have p1 : ∀ x : Ext W, x.wd.cell? ⟨gp, 1, none⟩ = some (.int .i64 p.trm) := HPW.out.ext 1
    have p2 : ∀ x : Ext W, x.wd.cell? ⟨gp, 2, none⟩ = some (.int .i64 p.knd) := HPW.out.ext 2
    go_enter Tryz.func33, Tryz.ntmps33
    go_upto_region 2 with fail
    rw [← HE.out]
    refine wp_region_ext (by kernel_rfl) (by kernel_rfl) ?_
    repeat (go_big_quiet_step ((rename_i x5; first
      | (go_at_call 34; exact ext_of x5 (CO.out x5))
      | (go_at_call 35; exact ext_of x5 (CF.out x5)))))
    refine wpQuiet_nil ?_
    intro _ hw'
    obtain ⟨x6, hw''⟩ := hw'
    subst hw''
    have H6 := Lib.hid x6.low
    have HR6 := Lib.hid (HR.out.later x6.low)
    have HG6 := Lib.hid (errType_later HGW.out x6.low)
    obtain ⟨V, hV⟩ : ∃ z, z = x6.wd := ⟨_, rfl⟩
    rw [← hV] at H6 HR6 HG6
    rw [← hV]
    clear hV g0 g1 g2 g3 g4 g5 g6 p0 p1 p2 CO CF
    have CI : Hid (Calls Tryz.prog 36 #[.iface 64 (.agg #[.int .i64 n, .iface 70 (.int .i64 2)]), .iface 70 (.int .i64 2)] V fun e w' => e = .returned (.bool true) ∧ Below V.heap.size V w') := HeaE.is_wrap n 2 2 V
    go_wp2_with (go_at_call 36; (with_reducible refine CI.out.mono ?_); rintro e w7 ⟨rfl, hb7⟩; have H7 := Lib.hid (below_call H6.out hb7); clear hb7)
    go_ret
    exact ⟨ret_bool HF.out.symm, below_call HB0.out H7.out⟩

set_option maxHeartbeats 1000000 in
theorem recGiveIndex (gp : Nat) (p : Rec → Bool) (l : List Rec) (v : Value) (w : World) (h : Sl 7 recRow w.heap.size w v l) (hcl : ∀ x ∈ l, ∀ W, Below w.heap.size w W → Calls Tryz.prog 33 #[.agg #[.int .i64 x.e.idx, .int .i64 x.e.trm, .int .i64 x.e.knd, .slice x.e.ba x.e.bd.length x.e.bc, .int .i64 x.a.idx, .int .i64 x.a.trm, .int .i64 x.a.knd], .pointer (some ⟨gp, 0, none⟩)] W fun e W' => e = .returned (.bool (p x)) ∧ Below W.heap.size W W') :
    Calls Tryz.prog 32 #[v, .func (.func 33) #[] #[.pointer (some ⟨gp, 0, none⟩)]] w fun e w' => (∃ r : Int, e = .returned (.int .i64 r) ∧ FndPost p l r) ∧ Below w.heap.size w w' := by
  obtain ⟨A, cap, rfl, hlc, hcm, -, hA⟩ := h
  have hn : l.length ≤ 9223372036854775807 := by unfold maxLen at hcm; omega
  have HA := Lib.hid hA
  have HC := Lib.hid hcl
  clear hcm hA hcl
  go_enter Tryz.func32, Tryz.ntmps32
  go_wp2_with fail
  go_loopw [4, 5, 8] (fun _ _ j wr => ∃ k : Nat, k ≤ l.length ∧ j = .int .i64 (k : Int) ∧ NoP p l k ∧ Below w.heap.size w wr) (fun _ _ j _ => l.length - (kfOf j).toNat)
  case atStart => exact ⟨0, by omega, rfl, noP_zero, Below.refl _ _⟩
  case round =>
    obtain ⟨k, hk, rfl, hno, hB⟩ := hrel
    have HNO := Lib.hid hno
    have HB := Lib.hid hB
    have i0 : (0 : Int) ≤ (k : Int) := by omega
    clear hno hB
    by_cases hlt : k < l.length
    · have i1 : (k : Int) < (l.length : Int) := by omega
      have d0 : decide ((k : Int) < (l.length : Int)) = true := decide_eq_true i1
      have d0' : decide (k < l.length) = true := decide_eq_true hlt
      obtain ⟨b, off, rfl, hb, hcell⟩ := HA.out (by intro h; subst h; simp at hlt)
      obtain ⟨x, hx⟩ : ∃ x, l[k]? = some x := ⟨_, List.getElem?_eq_getElem hlt⟩
      have c0 : wr.cell? ⟨b, off + k * 7, none⟩ = some (.int .i64 x.e.idx) := by simpa using (HB.out.cell (p := ⟨b, off + k * 7 + 0, none⟩) hb).trans (hcell k x hx 0 _ rfl)
      have c1 : wr.cell? ⟨b, off + k * 7 + 1, none⟩ = some (.int .i64 x.e.trm) := by simpa using (HB.out.cell (p := ⟨b, off + k * 7 + 1, none⟩) hb).trans (hcell k x hx 1 _ rfl)
      have c2 : wr.cell? ⟨b, off + k * 7 + 2, none⟩ = some (.int .i64 x.e.knd) := by simpa using (HB.out.cell (p := ⟨b, off + k * 7 + 2, none⟩) hb).trans (hcell k x hx 2 _ rfl)
      have c3 : wr.cell? ⟨b, off + k * 7 + 3, none⟩ = some (.slice x.e.ba x.e.bd.length x.e.bc) := by simpa using (HB.out.cell (p := ⟨b, off + k * 7 + 3, none⟩) hb).trans (hcell k x hx 3 _ rfl)
      have c4 : wr.cell? ⟨b, off + k * 7 + 4, none⟩ = some (.int .i64 x.a.idx) := by simpa using (HB.out.cell (p := ⟨b, off + k * 7 + 4, none⟩) hb).trans (hcell k x hx 4 _ rfl)
      have c5 : wr.cell? ⟨b, off + k * 7 + 5, none⟩ = some (.int .i64 x.a.trm) := by simpa using (HB.out.cell (p := ⟨b, off + k * 7 + 5, none⟩) hb).trans (hcell k x hx 5 _ rfl)
      have c6 : wr.cell? ⟨b, off + k * 7 + 6, none⟩ = some (.int .i64 x.a.knd) := by simpa using (HB.out.cell (p := ⟨b, off + k * 7 + 6, none⟩) hb).trans (hcell k x hx 6 _ rfl)
      have HX := Lib.hid hx
      have HCX := Lib.hid (HC.out x (List.mem_of_getElem? hx) wr HB.out)
      clear hcell hx
      cases hp : p x with
      | true =>
        rw [hp] at HCX
        have HP := Lib.hid hp
        clear hp
        go_wp2_with (go_at_call 33; (with_reducible refine HCX.out.mono ?_); rintro e w2 ⟨rfl, hb2⟩)
        go_ret
        exact ⟨⟨_, rfl, fnd_yes HNO.out HX.out HP.out⟩, below_call HB.out hb2⟩
      | false =>
        rw [hp] at HCX
        have HP := Lib.hid hp
        clear hp
        go_wp2_with (go_at_call 33; (with_reducible refine HCX.out.mono ?_); rintro e w2 ⟨rfl, hb2⟩; have HB2 := Lib.hid (below_call HB.out hb2); clear hb2)
        go_roundw
        case rel => exact ⟨k + 1, by omega, by go_num, noP_step HNO.out HX.out HP.out, HB2.out⟩
        case measure => simp [kfOf]; omega
    · have d0 : decide ((k : Int) < (l.length : Int)) = false := decide_eq_false (by omega)
      have d0' : decide (k < l.length) = false := decide_eq_false hlt
      have HF := Lib.hid (show NoP p l l.length by have h := HNO.out; rw [show k = l.length by omega] at h; exact h)
      go_wp2_with fail
      go_ret
      exact ⟨⟨_, rfl, fnd_no HF.out⟩, HB.out⟩

end Go.Proofs.YtglkgmijhdkhpaaGreatDoor
