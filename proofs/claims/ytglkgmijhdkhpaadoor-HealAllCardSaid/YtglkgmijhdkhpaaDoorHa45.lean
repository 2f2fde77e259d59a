/-
  THE PACKAGE entry, 5: whether a row follows, its last one: contracts.
-/
import Derived.Test.YtglkgmijhdkhpaaDoorHa12
import Derived.Test.YtglkgmijhdkhpaaDoorHa44
set_option linter.unusedVariables false
set_option linter.unusedSimpArgs false
namespace Go.Proofs.YtglkgmijhdkhpaaDoor
open Go.RowKit

/-- The error of a row: none, or its place and number. -/
def brkV (k : Nat) (n : Int) : Value := .iface 106 (.agg #[.int .i64 k, .iface 78 (.int .i64 n)])
def RowPost (p : Idt) (l : List Ent) (gc : Nat) (w : World) (e : Ending) (w' : World) : Prop :=
  ((e = .returned .nilIface ∧ folE p l = 0) ∨ ∃ (k : Nat) (n : Int), e = .returned (brkV k n) ∧ folE p l = n ∧ n ≠ 0) ∧ Below gc w w'
theorem rowPost_nil {p : Idt} {l : List Ent} {gc : Nat} {w w' : World} (h : folE p l = 0) (hb : Below gc w w') : RowPost p l gc w (.returned .nilIface) w' := ⟨.inl ⟨rfl, h⟩, hb⟩
theorem rowPost_err {p : Idt} {l : List Ent} {gc k : Nat} {n : Int} {w w' : World} (h : folE p l = n) (hn : n ≠ 0) (hb : Below gc w w') : RowPost p l gc w (.returned (.iface 106 (.agg #[.int .i64 k, .iface 78 (.int .i64 n)]))) w' := ⟨.inr ⟨k, n, rfl, h, hn⟩, hb⟩
theorem Box.set3 {w : World} {n : Nat} {a b c : Value} {t : TypeId} (h : Box w n #[a, b, c] t) (x y z : Value) :
    Box (((w.setCell ⟨n, 0, none⟩ x).setCell ⟨n, 1, none⟩ y).setCell ⟨n, 2, none⟩ z) n #[x, y, z] t := ((h.set_ 0 x).set_ 1 y).set_ 2 z

set_option maxRecDepth 100000 in
set_option maxHeartbeats 2000000 in
theorem entRowOf (gc : Nat) (p : Idt) (l : List Ent) (v : Value) (w : World) (hbx : Box w gc #[.int .i64 p.idx, .int .i64 p.trm, .int .i64 p.knd] 76) (h : Sl 4 entRow gc w v l) (hin : ∀ x ∈ l, EntIn gc w x) :
    Calls Tryd.prog 34 #[.pointer (some ⟨gc, 0, none⟩), v] w (RowPost p l gc w) := by
  obtain ⟨A, cap, rfl, hlc, hcm, -, hA⟩ := h
  have hn : l.length ≤ 9223372036854775807 := by unfold maxLen at hcm; omega
  have hgc := hbx.lt
  have HIN := Lib.hid hin
  have HA := Lib.hid hA
  have HBX0 := Lib.hid hbx
  clear hcm hA hin hbx
  go_enter Tryd.func34, Tryd.ntmps34
  go_wp2_with fail
  go_loopw [10] (fun i wr => ∃ k : Nat, k ≤ l.length ∧ i = .int .i64 k ∧ FolTo p l k ∧ Box wr gc #[.int .i64 (lastE p (l.take k)).idx, .int .i64 (lastE p (l.take k)).trm, .int .i64 (lastE p (l.take k)).knd] 76 ∧ Below gc w wr) (fun i _ => l.length - (intOf i).toNat)
  case atStart => exact ⟨0, by omega, rfl, folTo_zero, HBX0.out, Below.refl _ _⟩
  case round =>
    obtain ⟨k, hk, rfl, hno, hbx, hB⟩ := hrel
    by_cases hlt : k < l.length
    · obtain ⟨b, off, rfl, hb, hcell⟩ := HA.out (by intro h; subst h; simp at hlt)
      obtain ⟨x, hx⟩ : ∃ x, l[k]? = some x := ⟨_, List.getElem?_eq_getElem hlt⟩
      have c0 := (hB.cell (p := ⟨b, off + k * 4, none⟩) hb).trans (hcell k x hx 0 _ rfl)
      have c1 := (hB.cell (p := ⟨b, off + k * 4 + 1, none⟩) hb).trans (hcell k x hx 1 _ rfl)
      have c2 := (hB.cell (p := ⟨b, off + k * 4 + 2, none⟩) hb).trans (hcell k x hx 2 _ rfl)
      have c3 := (hB.cell (p := ⟨b, off + k * 4 + 3, none⟩) hb).trans (hcell k x hx 3 _ rfl)
      obtain ⟨q, hq⟩ : ∃ q, lastE p (l.take k) = q := ⟨_, rfl⟩
      rw [hq] at hbx
      have HQ := Lib.hid hq
      have HX := Lib.hid hx
      have HNO := Lib.hid hno
      have hz := hB.size
      have hgr := hbx.lt
      have hbr : b < wr.heap.size := by omega
      have i0 : (0 : Int) ≤ (k : Int) := by omega
      have i1 : (k : Int) < (l.length : Int) := by omega
      have d0 : decide ((k : Int) < (l.length : Int)) = true := decide_eq_true i1
      have HB := Lib.hid (hB.alloc (show gc ≤ wr.heap.size by omega) (.cells #[.int .i64 x.idx, .int .i64 x.trm, .int .i64 x.knd, .slice x.ba x.bd.length x.bc] 35))
      have HE := Lib.hid (((HIN.out x (List.mem_of_getElem? hx)).below hB).more (show gc ≤ wr.heap.size by omega) |>.later (below_new wr (.cells #[.int .i64 x.idx, .int .i64 x.trm, .int .i64 x.knd, .slice x.ba x.bd.length x.bc] 35)))
      have PC1 := Lib.hid (hbx.alloc (.cells #[.int .i64 x.idx, .int .i64 x.trm, .int .i64 x.knd, .slice x.ba x.bd.length x.bc] 35))
      have PE := Lib.hid (Box.new wr #[.int .i64 x.idx, .int .i64 x.trm, .int .i64 x.knd, .slice x.ba x.bd.length x.bc] 35)
      clear hcell hx hbx hB hno hq
      go_upto_region 4 with fail
      obtain ⟨ge, hge⟩ : ∃ g, g = wr.heap.size := ⟨_, rfl⟩
      obtain ⟨W, hW⟩ : ∃ W : World, W = wr.alloc (.cells #[.int .i64 x.idx, .int .i64 x.trm, .int .i64 x.knd, .slice x.ba x.bd.length x.bc] 35) := ⟨_, rfl⟩
      rw [← hW] at HB HE PC1
      rw [← hW, ← hge] at PE
      rw [← hW, ← hge]
      have hgl : gc < ge := by omega
      clear hW hge c0 c1 c2 c3
      have kc0 : ∀ zw : Ext W, zw.wd.cell? ⟨gc, 0, none⟩ = some (.int .i64 q.idx) := PC1.out.ext 0
      have kc1 : ∀ zw : Ext W, zw.wd.cell? ⟨gc, 1, none⟩ = some (.int .i64 q.trm) := PC1.out.ext 1
      have kc2 : ∀ zw : Ext W, zw.wd.cell? ⟨gc, 2, none⟩ = some (.int .i64 q.knd) := PC1.out.ext 2
      have ke0 : ∀ zw : Ext W, zw.wd.cell? ⟨ge, 0, none⟩ = some (.int .i64 x.idx) := PE.out.ext 0
      have ke1 : ∀ zw : Ext W, zw.wd.cell? ⟨ge, 1, none⟩ = some (.int .i64 x.trm) := PE.out.ext 1
      have ke2 : ∀ zw : Ext W, zw.wd.cell? ⟨ge, 2, none⟩ = some (.int .i64 x.knd) := PE.out.ext 2
      have ke3 : ∀ zw : Ext W, zw.wd.cell? ⟨ge, 3, none⟩ = some (.slice x.ba x.bd.length x.bc) := PE.out.ext 3
      by_cases hs : stepE q x = 0
      · have HS := Lib.hid hs
        have CM := Lib.hid (show ∀ x5 : Ext W, Calls Tryd.prog 54 #[.agg #[.int .i64 q.idx, .int .i64 q.trm, .int .i64 q.knd], .agg #[.int .i64 x.idx, .int .i64 x.trm, .int .i64 x.knd, .slice x.ba x.bd.length x.bc]] x5.wd (fun e w' => e = .returned .nilIface ∧ Below x5.wd.heap.size x5.wd w') from fun x5 => by have h := entMeets q x x5.wd (HE.out.later x5.low); rw [hs] at h; exact h)
        clear hs
        refine wp_region_ext (by kernel_rfl) (by kernel_rfl) ?_
        repeat (go_big_quiet_step ((rename_i x5; have h5 := x5.low; first
          | (go_at_call 54; exact ext_of x5 (CM.out x5)))))
        refine wpQuiet_nil ?_
        intro _ hw'
        obtain ⟨x5, hw''⟩ := hw'
        subst hw''
        have P5 := Lib.hid (PC1.out.later x5.low)
        have E5 := Lib.hid (PE.out.later x5.low)
        have B5 := Lib.hid (HB.out.trans (x5.low.mono (show gc ≤ W.heap.size by have := PC1.out.lt; omega)))
        clear kc0 kc1 kc2 ke0 ke1 ke2 ke3
        obtain ⟨me, -, ze⟩ := E5.out.facts
        go_wp2_with (go_at_call 10; refine (entOf x _).mono ?_; rintro e w6 ⟨rfl, b6⟩; obtain ⟨mc, fc, zc⟩ := (P5.out.later b6).facts)
        have R1 := Lib.hid (show FolTo p l (k + 1) from folTo_succ HX.out HNO.out (by rw [HQ.out]; exact HS.out))
        have R2 := Lib.hid ((P5.out.later b6).set3 (.int .i64 x.idx) (.int .i64 x.trm) (.int .i64 x.knd))
        have R3 := Lib.hid (B5.out.trans (b6.mono (show gc ≤ x5.wd.heap.size by have := P5.out.lt; omega)))
        clear mc fc b6 me
        go_roundw
        case rel => exact ⟨k + 1, by omega, by go_num, R1.out, by rw [last_take HX.out]; exact R2.out, below_set (below_set (below_set R3.out (Nat.le_refl _)) (Nat.le_refl _)) (Nat.le_refl _)⟩
        case measure => simp [intOf]; omega
      · obtain ⟨n, hne⟩ : ∃ n, stepE q x = n := ⟨_, rfl⟩
        have n0 : n ≠ 0 := by rw [← hne]; exact hs
        have HF := Lib.hid (show folE p l = n by rw [folE_stop HX.out HNO.out (by rw [HQ.out]; exact hs), HQ.out]; exact hne)
        have CM := Lib.hid (show ∀ x5 : Ext W, Calls Tryd.prog 54 #[.agg #[.int .i64 q.idx, .int .i64 q.trm, .int .i64 q.knd], .agg #[.int .i64 x.idx, .int .i64 x.trm, .int .i64 x.knd, .slice x.ba x.bd.length x.bc]] x5.wd (fun e w' => e = .returned (.iface 78 (.int .i64 n)) ∧ Below x5.wd.heap.size x5.wd w') from fun x5 => by have h := entMeets q x x5.wd (HE.out.later x5.low); unfold numV at h; rw [if_neg hs, hne] at h; exact h)
        have N0 := Lib.hid n0
        clear hs hne n0
        refine wp_region_ext (by kernel_rfl) (by kernel_rfl) ?_
        repeat (go_big_quiet_step ((rename_i x5; have h5 := x5.low; first
          | (go_at_call 54; exact ext_of x5 (CM.out x5)))))
        refine wpQuiet_nil ?_
        intro _ hw'
        obtain ⟨x5, hw''⟩ := hw'
        subst hw''
        have B5 := Lib.hid (HB.out.trans (x5.low.mono (show gc ≤ W.heap.size by have := PC1.out.lt; omega)))
        clear kc0 kc1 kc2 ke0 ke1 ke2 ke3
        go_wp2_with fail
        go_ret
        exact rowPost_err HF.out N0.out B5.out
    · have hk' : k = l.length := by omega
      have HF := Lib.hid (show folE p l = 0 from folE_all (by rw [← hk']; exact hno))
      have d0 : decide ((k : Int) < (l.length : Int)) = false := decide_eq_false (by omega)
      have HB := Lib.hid hB
      clear hk' hno hbx hB
      go_wp2_with fail
      go_ret
      exact rowPost_nil HF.out HB.out
end Go.Proofs.YtglkgmijhdkhpaaDoor
