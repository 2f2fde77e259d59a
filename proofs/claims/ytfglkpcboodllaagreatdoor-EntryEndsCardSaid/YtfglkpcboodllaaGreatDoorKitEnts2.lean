/-
  limpetkit's KeptEntries: contract.
-/
import Derived.Test.YtfglkpcboodllaaGreatDoorKitEnts
set_option linter.unusedVariables false
set_option linter.unusedSimpArgs false
namespace Go.Proofs.YtfglkpcboodllaaGreatDoor
open Go.RowKit

set_option maxRecDepth 100000 in
set_option maxHeartbeats 4000000 in
theorem keptEntries (l l' : List Ent) (v v' : Value) (w : World) (hkey : l'.map keyE = l.map keyE) (h : Lnt 4 entRow marksE w.heap.size w v l') (hbod : ∀ x ∈ l', Lnt 1 u8Row marksB w.heap.size w x.bv x.bd) (h' : Sl 4 entRow w.heap.size w v' l) (hin : ∀ x ∈ l, EntIn w.heap.size w x ∧ x.bd.length ≤ 1000000) (hn : l.length ≤ 1000000) :
    Calls Tryz.prog 27 #[v, v'] w fun e w' => e = .returned (.bool true) ∧ Below w.heap.size w w' := by
  obtain ⟨g, cap, rfl, q1, q2, hg, hall⟩ := h
  obtain ⟨A', cap', rfl, hlc', hcm', -, hA'⟩ := h'
  have hll := keys_length hkey
  rw [hll, marksE_length] at q1
  rw [hll]
  have q2' : cap ≤ 9223372036854775807 := by unfold maxLen at q2; omega
  have HALL := Lib.hid hall
  have HA := Lib.hid hA'
  have HK := Lib.hid hkey
  have HBD := Lib.hid hbod
  have HIN := Lib.hid hin
  have HLL := Lib.hid hll
  clear hcm' q2 hall hA' hkey hbod hin hll
  go_enter Tryz.func27, Tryz.ntmps27
  go_wp2_with fail
  go_loopw [6] (fun i wr => ∃ k : Nat, k ≤ l.length + 12 ∧ i = .int .i64 k ∧ Below w.heap.size w wr) (fun i _ => l.length + 12 - (intOf i).toNat)
  case atStart => exact ⟨0, by omega, rfl, Below.refl _ _⟩
  case round =>
    obtain ⟨k, hk, rfl, hB⟩ := hrel
    have HB := Lib.hid hB
    have HC : Hid (∀ (zw : Ext wr) (b o : Nat), b < w.heap.size → zw.wd.cell? ⟨b, o, none⟩ = w.cell? ⟨b, o, none⟩) := fun zw b o hb => (hB.trans (zw.low.mono hB.size)).cell (p := ⟨b, o, none⟩) hb
    clear hB
    have i0 : (0 : Int) ≤ (k : Int) := by omega
    by_cases hlt : k < l.length
    · obtain ⟨b', off', rfl, hb', hcell'⟩ := HA.out (by intro h; subst h; simp at hlt)
      obtain ⟨x, hx⟩ : ∃ x, l[k]? = some x := ⟨_, List.getElem?_eq_getElem hlt⟩
      obtain ⟨Ax, cx, hx2⟩ := keys_at HK.out hx
      have hx3 : (l' ++ marksE)[k]? = some ⟨x.idx, x.trm, x.knd, Ax, cx, x.bd⟩ := by rw [List.getElem?_append_left (by have := HLL.out; omega)]; exact hx2
      have ca0 : ∀ zw : Ext wr, zw.wd.cell? ⟨g, k * 4, none⟩ = some (.int .i64 x.idx) := fun zw => (HC.out zw _ _ hg).trans (HALL.out k _ hx3 0 _ rfl)
      have ca1 : ∀ zw : Ext wr, zw.wd.cell? ⟨g, k * 4 + 1, none⟩ = some (.int .i64 x.trm) := fun zw => (HC.out zw _ _ hg).trans (HALL.out k _ hx3 1 _ rfl)
      have ca2 : ∀ zw : Ext wr, zw.wd.cell? ⟨g, k * 4 + 2, none⟩ = some (.int .i64 x.knd) := fun zw => (HC.out zw _ _ hg).trans (HALL.out k _ hx3 2 _ rfl)
      have ca3 : ∀ zw : Ext wr, zw.wd.cell? ⟨g, k * 4 + 3, none⟩ = some (.slice Ax x.bd.length cx) := fun zw => (HC.out zw _ _ hg).trans (HALL.out k _ hx3 3 _ rfl)
      have cb0 : ∀ zw : Ext wr, zw.wd.cell? ⟨b', off' + k * 4, none⟩ = some (.int .i64 x.idx) := fun zw => (HC.out zw _ _ hb').trans (hcell' k x hx 0 _ rfl)
      have cb1 : ∀ zw : Ext wr, zw.wd.cell? ⟨b', off' + k * 4 + 1, none⟩ = some (.int .i64 x.trm) := fun zw => (HC.out zw _ _ hb').trans (hcell' k x hx 1 _ rfl)
      have cb2 : ∀ zw : Ext wr, zw.wd.cell? ⟨b', off' + k * 4 + 2, none⟩ = some (.int .i64 x.knd) := fun zw => (HC.out zw _ _ hb').trans (hcell' k x hx 2 _ rfl)
      have cb3 : ∀ zw : Ext wr, zw.wd.cell? ⟨b', off' + k * 4 + 3, none⟩ = some (.slice x.ba x.bd.length x.bc) := fun zw => (HC.out zw _ _ hb').trans (hcell' k x hx 3 _ rfl)
      obtain ⟨xi, xn⟩ := HIN.out x (List.mem_of_getElem? hx)
      have hbl := HBD.out _ (List.mem_of_getElem? hx2)
      have CK := Lib.hid (show ∀ x5 : Ext wr, Calls Tryz.prog 89 #[.agg #[.int .i64 x.idx, .int .i64 x.trm, .int .i64 x.knd, .slice Ax x.bd.length cx], .agg #[.int .i64 x.idx, .int .i64 x.trm, .int .i64 x.knd, .slice x.ba x.bd.length x.bc]] x5.wd (fun e w' => e = .returned (.bool true) ∧ Below x5.wd.heap.size x5.wd w') from fun x5 => keptEntry x Ax cx x5.wd (((hbl.below HB.out).more HB.out.size).later x5.low) ((((xi.below HB.out).more HB.out.size).later x5.low).1) xn)
      have i1 : (k : Int) < (l.length : Int) := by omega
      have i2 : (k : Int) < (l.length : Int) + 12 := by omega
      have d1 : decide (k < l.length) = true := by simpa using hlt
      have d2 : decide (l.length ≤ k) = false := by simpa using hlt
      have d3 : decide ((k : Int) < (l.length : Int)) = true := decide_eq_true i1
      have d4 : decide ((l.length : Int) ≤ (k : Int)) = false := decide_eq_false (by omega)
      have d5 : decide ((k : Int) < (l.length : Int) + 12) = true := decide_eq_true i2
      clear hcell' hx hx2 hx3 hbl xi xn
      go_upto_region 7 with fail
      refine wp_region_ext (by kernel_rfl) (by kernel_rfl) ?_
      repeat (go_big_quiet_step ((rename_i x5; have h5 := x5.low; first
        | (go_at_call 89; exact ext_of x5 (CK.out x5)))))
      refine wpQuiet_nil ?_
      intro _ hw'
      obtain ⟨x5, hw''⟩ := hw'
      subst hw''
      go_wp2_with fail
      go_roundw
      case rel => exact ⟨k + 1, by omega, by go_num, HB.out.trans (x5.low.mono HB.out.size)⟩
      case measure => simp [intOf]; omega
    · by_cases hlt2 : k < l.length + 12
      · obtain ⟨j, hj⟩ : ∃ j, j = k - l.length := ⟨_, rfl⟩
        have hx3 : (l' ++ marksE)[k]? = some (mrkE j) := by rw [hj, List.getElem?_append_right (by have := HLL.out; omega), HLL.out]; exact marksE_at (by omega)
        have cm0 : ∀ zw : Ext wr, zw.wd.cell? ⟨g, k * 4, none⟩ = some (.int .i64 (mkI 1 (j : Int))) := fun zw => (HC.out zw _ _ hg).trans (HALL.out k _ hx3 0 _ rfl)
        have cm1 : ∀ zw : Ext wr, zw.wd.cell? ⟨g, k * 4 + 1, none⟩ = some (.int .i64 0) := fun zw => (HC.out zw _ _ hg).trans (HALL.out k _ hx3 1 _ rfl)
        have cm2 : ∀ zw : Ext wr, zw.wd.cell? ⟨g, k * 4 + 2, none⟩ = some (.int .i64 0) := fun zw => (HC.out zw _ _ hg).trans (HALL.out k _ hx3 2 _ rfl)
        have cm3 : ∀ zw : Ext wr, zw.wd.cell? ⟨g, k * 4 + 3, none⟩ = some (.slice none 0 0) := fun zw => (HC.out zw _ _ hg).trans (HALL.out k _ hx3 3 _ rfl)
        have i1 : (l.length : Int) ≤ (k : Int) := by omega
        have i2 : (k : Int) < (l.length : Int) + 12 := by omega
        have d1 : decide (k < l.length) = false := by simpa using hlt
        have d2 : decide (l.length ≤ k) = true := by simpa using hlt
        have d3 : decide ((k : Int) < (l.length : Int)) = false := decide_eq_false (by omega)
        have d4 : decide ((l.length : Int) ≤ (k : Int)) = true := decide_eq_true i1
        have d5 : decide ((k : Int) < (l.length : Int) + 12) = true := decide_eq_true i2
        have w1 : IntKind.i64.wrap ((k : Int) - (l.length : Int)) = (j : Int) := by rw [IntWalk.i64_in _ (by omega)]; omega
        have m0 : (0 : Int) ≤ (j : Int) := by omega
        have m1 : (j : Int) ≤ 1000000 := by omega
        have CS := Lib.hid (show ∀ x5 : Ext wr, Calls Tryz.prog 90 #[.agg #[.int .i64 (mkI 1 (j : Int)), .int .i64 0, .int .i64 0, .slice none 0 0], .agg #[.int .i64 (mkI 1 (j : Int)), .int .i64 0, .int .i64 0, .slice none 0 0]] x5.wd (fun e w' => e = .returned (.bool true) ∧ Below x5.wd.heap.size x5.wd w') from fun x5 => sameEntry (mrkE j) none 0 x5.wd (Sl.nil_ _ _ _ _) (Sl.nil_ _ _ _ _))
        clear hlt hj hx3
        go_upto_region 7 with fail
        refine wp_region_ext (by kernel_rfl) (by kernel_rfl) ?_
        repeat (go_big_quiet_step ((rename_i x5; have h5 := x5.low; first
          | (go_at_call 78; exact ext_of x5 (markEntryAny 1 (j : Int) x5.wd (by omega) (by omega) m0 m1))
          | (go_at_call 90; exact ext_of x5 (CS.out x5)))))
        refine wpQuiet_nil ?_
        intro _ hw'
        obtain ⟨x5, hw''⟩ := hw'
        subst hw''
        clear w1
        go_wp2_with fail
        go_roundw
        case rel => exact ⟨k + 1, by omega, by go_num, HB.out.trans (x5.low.mono HB.out.size)⟩
        case measure => simp [intOf]; omega
      · have d5 : decide ((k : Int) < (l.length : Int) + 12) = false := decide_eq_false (by omega)
        go_wp2_with fail
        go_ret
        exact ⟨rfl, HB.out⟩
end Go.Proofs.YtfglkpcboodllaaGreatDoor
