/-
  Merged: SortIdt3, SortIdt4.
-/
import Derived.Test.YtglkgmijhdkhpaaGreatDoorHt13
import Derived.Deep.DeepCutAuto
import Derived.Deep.RegionHeld3
/-
  slices.SortStableFunc's symMerge at identities, one of the first: contract.
-/
set_option linter.unusedVariables false
set_option linter.unusedSimpArgs false
namespace Go.Proofs.YtglkgmijhdkhpaaGreatDoor
open Go.RowKit

theorem Own.extRow {e : TypeId} {base g cap n i : Nat} {w : World} {l : List Idt} {x : Idt} (h : Own 3 idRow e base w (.slice (some ⟨g, 0, none⟩) n cap) l) (hx : l[i]? = some x) :
    (∀ x5 : Ext w, x5.wd.cell? ⟨g, i * 3, none⟩ = some (.int .i64 x.idx)) ∧ (∀ x5 : Ext w, x5.wd.cell? ⟨g, i * 3 + 1, none⟩ = some (.int .i64 x.trm)) ∧ (∀ x5 : Ext w, x5.wd.cell? ⟨g, i * 3 + 2, none⟩ = some (.int .i64 x.knd)) := by
  obtain ⟨c0, c1, c2⟩ := h.row3 hx
  have hg := (h.block (x := g) rfl).2
  exact ⟨fun x5 => (x5.low.cell (p := ⟨g, i * 3, none⟩) hg).trans c0, fun x5 => (x5.low.cell (p := ⟨g, i * 3 + 1, none⟩) hg).trans c1, fun x5 => (x5.low.cell (p := ⟨g, i * 3 + 2, none⟩) hg).trans c2⟩

set_option maxRecDepth 100000 in
set_option maxHeartbeats 8000000 in
theorem idtSym1 (base g n c : Nat) (P S : List Idt) (U V : List (Idt × Nat)) (a m b : Nat) (w : World) (h : Own 3 idRow 42 base w (.slice (some ⟨g, 0, none⟩) n c) (P ++ ut U ++ (ut V ++ S))) (hU : SL Idt.idx U) (hV : SL Idt.idx V) (ht : TG U V) (ha : P.length = a) (hm : a + U.length = m) (hb : m + V.length = b) (hn : n ≤ 100000) (h1 : U.length = 1) (hv1 : 0 < V.length) :
    Calls Tryz.prog 117 #[.slice (some ⟨g, 0, none⟩) n c, .int .i64 (a : Int), .int .i64 (m : Int), .int .i64 (b : Int), .func (.func 62) #[] #[]] w fun e w' => e = .returned (.tuple #[]) ∧ (∃ R, Mrg Idt.idx U V R ∧ Own 3 idRow 42 base w' (.slice (some ⟨g, 0, none⟩) n c) (P ++ ut R ++ S)) ∧ Below base w w' := by
  obtain ⟨x, hx⟩ : ∃ x, U = [x] := by
    rcases U with _ | ⟨x, _ | ⟨y, U⟩⟩
    · simp at h1
    · exact ⟨x, rfl⟩
    · simp at h1
  subst hx
  have HO0 := Lib.hid h
  have HV := Lib.hid hV
  have HT := Lib.hid ht
  have HA := Lib.hid ha
  have hnl := h.capLen
  simp only [List.length_append, ut_length, List.length_singleton] at hnl
  simp only [List.length_singleton] at hm
  have hm' : (m : Int) = (a : Int) + 1 := by omega
  have e1 : ((m : Int) - (a : Int) == 1) = true := by simp; omega
  have hbn : b ≤ n := by omega
  have a0 : (0 : Int) ≤ (a : Int) := by omega
  have am : (a : Int) < (m : Int) := by omega
  have mb : (m : Int) ≤ (b : Int) := by omega
  have bn : (b : Int) ≤ (n : Int) := by omega
  have n1 : (n : Int) ≤ 100000 := by omega
  have HM := Lib.hid hm
  have HBL := Lib.hid hb
  have an : a < n := by omega
  have hax : (P ++ ut [x] ++ (ut V ++ S))[a]? = some x.1 := by rw [← ha]; simp [ut]
  have hVx : ∀ (i : Nat) (v : Idt × Nat), V[i]? = some v → (P ++ ut [x] ++ (ut V ++ S))[m + i]? = some v.1 := fun i v hv => by
    have hl := (List.getElem?_eq_some_iff.1 hv).1
    rw [List.append_assoc, List.getElem?_append_right (by omega), ha, List.getElem?_append_right (by simp [ut]; omega), List.getElem?_append_left (by simp [ut]; omega)]
    rw [show m + i - a - (ut [x]).length = i by simp [ut]; omega]
    unfold ut; rw [List.getElem?_map, hv]; rfl
  have HAX := Lib.hid hax
  have HVX := Lib.hid hVx
  clear h hU hV ht ha h1 hnl hm hb hm' hax hVx
  go_enter Tryz.func117, Tryz.ntmps117
  go_wp2_with fail
  go_loopw [10, 11, 12] (fun s t _ wr => ∃ i j : Nat, s = .int .i64 (i : Int) ∧ t = .int .i64 (j : Int) ∧ m ≤ i ∧ i ≤ j ∧ j ≤ b ∧ (∀ q v, q < i - m → V[q]? = some v → v.1.idx < x.1.idx) ∧ (∀ q v, j - m ≤ q → V[q]? = some v → x.1.idx ≤ v.1.idx) ∧ Own 3 idRow 42 base wr (.slice (some ⟨g, 0, none⟩) n c) (P ++ ut [x] ++ (ut V ++ S)) ∧ Below base w wr) (fun s t _ _ => ((sOf t) - (sOf s)).toNat)
  case atStart => exact ⟨m, b, rfl, rfl, Nat.le_refl _, by have := HBL.out; omega, Nat.le_refl _, fun q v hq => by omega, fun q v hq hv => by have := (List.getElem?_eq_some_iff.1 hv).1; have := HBL.out; omega, HO0.out, Below.refl _ _⟩
  case round =>
    clear HO0
    obtain ⟨i, j, rfl, rfl, hmi, hij, hjb, hlo, hhi, ho, hB⟩ := hrel
    have HLO := Lib.hid hlo
    have HHI := Lib.hid hhi
    have HO := Lib.hid ho
    have HB := Lib.hid hB
    have j0 : (m : Int) ≤ (i : Int) := by omega
    have j1 : (i : Int) ≤ (j : Int) := by omega
    have j2 : (j : Int) ≤ (b : Int) := by omega
    clear hlo hhi ho hB
    by_cases hlt : i < j
    · have d0 : decide ((i : Int) < (j : Int)) = true := decide_eq_true (by omega)
      have d1 : (i : Int) < (j : Int) := by omega
      obtain ⟨q, hq⟩ : ∃ q, (i + j) / 2 = q := ⟨_, rfl⟩
      obtain ⟨v, hv⟩ : ∃ v, V[q - m]? = some v := ⟨_, List.getElem?_eq_getElem (by have := HBL.out; omega)⟩
      have hqi : i ≤ q := by omega
      have hqj : q < j := by omega
      have hqe : ((i : Int) + (j : Int)) / 2 = (q : Int) := by omega
      have q0 : (0 : Int) ≤ (q : Int) := by omega
      have q1 : (q : Int) < (n : Int) := by omega
      have hdv : (P ++ ut [x] ++ (ut V ++ S))[q]? = some v.1 := by have h := HVX.out _ _ hv; rwa [show m + (q - m) = q by omega] at h
      have HDV := Lib.hid hdv
      have HVQ := Lib.hid hv
      have HQE := Lib.hid hqe
      obtain ⟨W5, hW5⟩ : ∃ z, z = wr := ⟨_, rfl⟩
      rw [← hW5] at HO HB
      clear hq hdv hv hqe
      go_upto_region 5 with fail
      rw [HQE.out, ← hW5]
      clear hW5
      obtain ⟨g0, g1, g2⟩ := HO.out.extRow HDV.out
      obtain ⟨l0, l1, l2⟩ := HO.out.extRow HAX.out
      by_cases hvx : v.1.idx < x.1.idx
      · have CC : Hid (∀ x5 : Ext W5, Calls Tryz.prog 62 #[.agg #[.int .i64 v.1.idx, .int .i64 v.1.trm, .int .i64 v.1.knd], .agg #[.int .i64 x.1.idx, .int .i64 x.1.trm, .int .i64 x.1.knd]] x5.wd fun e w' => e = .returned (.int .i64 (-1)) ∧ Below x5.wd.heap.size x5.wd w') := fun x5 => by
          have h := idtCmp v.1 x.1 x5.wd
          rw [cmpN_lt hvx] at h; exact h
        have HVX2 := Lib.hid hvx
        clear hvx
        refine wp_region_ext (by kernel_rfl) (by kernel_rfl) ?_
        repeat (go_big_quiet_step ((rename_i x5; (go_at_call 62; exact ext_of x5 (CC.out x5)))))
        refine wpQuiet_nil ?_
        intro _ hw'
        obtain ⟨x6, hw''⟩ := hw'
        subst hw''
        clear g0 g1 g2 l0 l1 l2
        go_wp2_with fail
        have HO6 := Lib.hid (HO.out.later x6.low)
        have HB6 := Lib.hid (HB.out.trans (x6.low.mono (by have := HB.out.size; have := (HO.out.block (x := g) rfl).1; have := (HO.out.block (x := g) rfl).2; omega)))
        go_roundw
        case rel =>
          refine ⟨q + 1, j, by go_num, rfl, by omega, by omega, by omega, fun t z ht hz => ?_, HHI.out, HO6.out, HB6.out⟩
          rcases Nat.lt_or_ge t (q - m) with g1 | g1
          · have := key_le (sl_at HV.out hz HVQ.out g1); have := HVX2.out; omega
          · rw [show t = q - m by omega, HVQ.out] at hz; cases hz; exact HVX2.out
        case measure => first | (simp [sOf]; done) | (simp [sOf]; omega)
      · have CD0 : Hid (∃ v0 : Int, 0 ≤ v0 ∧ ∀ x5 : Ext W5, Calls Tryz.prog 62 #[.agg #[.int .i64 v.1.idx, .int .i64 v.1.trm, .int .i64 v.1.knd], .agg #[.int .i64 x.1.idx, .int .i64 x.1.trm, .int .i64 x.1.knd]] x5.wd fun e w' => e = .returned (.int .i64 v0) ∧ Below x5.wd.heap.size x5.wd w') := ⟨cmpN v.1.idx x.1.idx, cmpN_ge (by omega), fun x5 => idtCmp v.1 x.1 x5.wd⟩
        obtain ⟨v0, hv0, hcc⟩ := CD0.out
        have CC := Lib.hid hcc
        have dv : decide (v0 < 0) = false := decide_eq_false (by omega)
        have HVX2 := Lib.hid (show x.1.idx ≤ v.1.idx by omega)
        clear hvx hcc CD0
        refine wp_region_ext (by kernel_rfl) (by kernel_rfl) ?_
        repeat (go_big_quiet_step ((rename_i x5; (go_at_call 62; exact ext_of x5 (CC.out x5)))))
        refine wpQuiet_nil ?_
        intro _ hw'
        obtain ⟨x6, hw''⟩ := hw'
        subst hw''
        clear g0 g1 g2 l0 l1 l2
        go_wp2_with fail
        have HO6 := Lib.hid (HO.out.later x6.low)
        have HB6 := Lib.hid (HB.out.trans (x6.low.mono (by have := HB.out.size; have := (HO.out.block (x := g) rfl).1; have := (HO.out.block (x := g) rfl).2; omega)))
        go_roundw
        case rel =>
          refine ⟨i, q, rfl, rfl, by omega, by omega, by omega, HLO.out, fun t z ht hz => ?_, HO6.out, HB6.out⟩
          rcases Nat.lt_or_ge (q - m) t with g1 | g1
          · have := key_le (sl_at HV.out HVQ.out hz g1); have := HVX2.out; omega
          · rw [show t = q - m by omega, HVQ.out] at hz; cases hz; exact HVX2.out
        case measure => first | (simp [sOf]; done) | (simp [sOf]; omega)
    · have d0 : decide ((i : Int) < (j : Int)) = false := decide_eq_false (by omega)
      obtain ⟨d, hd⟩ : ∃ d, i - m = d := ⟨_, rfl⟩
      have hie : (i : Int) = (a : Int) + 1 + (d : Int) := by have := HM.out; omega
      have hdl : d ≤ V.length := by have := HBL.out; omega
      have HR := Lib.hid (mrg_one_left (x := x) HV.out HT.out hdl (fun q v hq hv => HLO.out q v (by omega) hv) (fun q v hq hv => HHI.out q v (by omega) hv))
      have HIE := Lib.hid hie
      have hji : (j : Int) ≤ (i : Int) := by omega
      have hdn : a + d < n := by have := HBL.out; have := HM.out; omega
      have hd0 : (0 : Int) ≤ (d : Int) := by omega
      have hd1 : (a : Int) + (d : Int) < (n : Int) := by omega
      have HO2 := Lib.hid (show Own 3 idRow 42 base wr (.slice (some ⟨g, 0, none⟩) n c) (P ++ ut (V.take 0) ++ x.1 :: (ut (V.drop 0) ++ S)) by have h := HO.out; simpa [ut] using h)
      have HDL := Lib.hid hdl
      rw [hie]
      clear hd hie HLO HHI HO hlt hdl j0 j1 j2 hjb hij hmi d0
      have d0 : decide ((a : Int) + 1 + (d : Int) < (j : Int)) = false := decide_eq_false (by have := HIE.out; omega)
      clear hji
      go_wp2_with fail
      go_loopw [13] (fun s wr => ∃ t : Nat, s = .int .i64 ((a + t : Nat) : Int) ∧ t ≤ d ∧ Own 3 idRow 42 base wr (.slice (some ⟨g, 0, none⟩) n c) (P ++ ut (V.take t) ++ x.1 :: (ut (V.drop t) ++ S)) ∧ Below base w wr) (fun s _ => a + d + 1 - (sOf s).toNat)
      case atStart => exact ⟨0, rfl, by omega, HO2.out, HB.out⟩
      case round =>
        clear HO2 HB
        obtain ⟨t, rfl, htd, ho, hB⟩ := hrel
        obtain ⟨kq, hkq⟩ : ∃ kq, a + t = kq := ⟨_, rfl⟩
        rw [hkq]
        have HKQ := Lib.hid hkq
        have k0 : (0 : Int) ≤ (kq : Int) := by omega
        have k1 : (kq : Int) < (n : Int) := by omega
        have HB := Lib.hid hB
        have HO := Lib.hid ho
        clear hB
        by_cases hlt : t < d
        · have d1 : decide ((kq : Int) < (a : Int) + 1 + (d : Int) - 1) = true := decide_eq_true (by omega)
          have d2 : (kq : Int) < (a : Int) + 1 + (d : Int) - 1 := by omega
          have d3 : decide ((kq : Int) < (a : Int) + (d : Int)) = true := decide_eq_true (by omega)
          have d4 : (kq : Int) + 1 < (n : Int) := by omega
          obtain ⟨y, hy⟩ : ∃ y, V[t]? = some y := ⟨_, List.getElem?_eq_getElem (by have := HDL.out; omega)⟩
          have hdr : V.drop t = y :: V.drop (t + 1) := by
            obtain ⟨h, rfl⟩ := List.getElem?_eq_some_iff.1 hy
            exact List.drop_eq_getElem_cons h
          have htk : V.take (t + 1) = V.take t ++ [y] := by rw [List.take_add_one, hy]; rfl
          obtain ⟨bx, by_, bs⟩ := on_step (P := P) (A := ut (V.take t)) (B := ut (V.drop (t + 1))) (S := S) (x := x.1) (y := y.1) (k := kq) (by simp only [List.length_append, ut_length, List.length_take]; have := HA.out; have := HDL.out; omega)
          have HOS := Lib.hid (show Own 3 idRow 42 base wr (.slice (some ⟨g, 0, none⟩) n c) (P ++ ut (V.take t) ++ x.1 :: (y.1 :: ut (V.drop (t + 1)) ++ S)) by have h := ho; rw [hdr] at h; exact h)
          have HSW := Lib.hid (HOS.out.swap bx by_ (by omega))
          have HBS := Lib.hid bs
          have HTK := Lib.hid htk
          obtain ⟨c0, c1, c2⟩ := HOS.out.row3 bx
          obtain ⟨e0, e10, e2⟩ := HOS.out.row3 by_
          obtain ⟨f0, z0⟩ := HOS.out.free3
          have e3 : ((kq : Int) + 1).toNat = kq + 1 := by omega
          obtain ⟨W6, hW6⟩ : ∃ z, z = wr := ⟨_, rfl⟩
          rw [← hW6] at HB HSW c0 c1 c2 e0 e10 e2 f0 z0
          rw [← hW6]
          clear ho hkq hy hdr htk bx by_ bs hW6
          go_wp2_with fail
          go_region
          go_wp2_with fail
          go_roundw
          case rel => exact ⟨t + 1, by rw [← Nat.add_assoc, HKQ.out]; go_num, by omega, by rw [HTK.out, ut_append]; rw [HBS.out] at HSW; exact HSW.out.1.drew, HB.out.trans HSW.out.2.drew⟩
          case measure => first | (simp [sOf]; done) | (simp [sOf]; omega)
        · have hte : t = d := by omega
          have d1 : decide ((kq : Int) < (a : Int) + 1 + (d : Int) - 1) = false := decide_eq_false (by omega)
          have d2 : ¬ (kq : Int) < (a : Int) + 1 + (d : Int) - 1 := by omega
          have d3 : decide ((kq : Int) < (a : Int) + (d : Int)) = false := decide_eq_false (by omega)
          have HF := Lib.hid (show Own 3 idRow 42 base wr (.slice (some ⟨g, 0, none⟩) n c) (P ++ ut (V.take d ++ [x] ++ V.drop d) ++ S) by have h := ho; rw [hte] at h; simpa [ut] using h)
          clear ho hkq hte
          go_wp2_with fail
          exact bodyPost_ret (v := .tuple #[]) (by simp [results, Tryz.results117]) rfl ⟨rfl, ⟨_, HR.out, by simpa [List.append_assoc] using HF.out⟩, HB.out⟩
end Go.Proofs.YtglkgmijhdkhpaaGreatDoor
/-
  slices.SortStableFunc's symMerge at identities, one of the second: contract.
-/
set_option linter.unusedVariables false
set_option linter.unusedSimpArgs false
namespace Go.Proofs.YtglkgmijhdkhpaaGreatDoor
open Go.RowKit


set_option maxRecDepth 100000 in
set_option maxHeartbeats 8000000 in
theorem idtSym2 (base g n c : Nat) (P S : List Idt) (U V : List (Idt × Nat)) (a m b : Nat) (w : World) (h : Own 3 idRow 42 base w (.slice (some ⟨g, 0, none⟩) n c) (P ++ ut U ++ (ut V ++ S))) (hU : SL Idt.idx U) (hV : SL Idt.idx V) (ht : TG U V) (ha : P.length = a) (hm : a + U.length = m) (hb : m + V.length = b) (hn : n ≤ 100000) (h1 : V.length = 1) (hu2 : 2 ≤ U.length) :
    Calls Tryz.prog 117 #[.slice (some ⟨g, 0, none⟩) n c, .int .i64 (a : Int), .int .i64 (m : Int), .int .i64 (b : Int), .func (.func 62) #[] #[]] w fun e w' => e = .returned (.tuple #[]) ∧ (∃ R, Mrg Idt.idx U V R ∧ Own 3 idRow 42 base w' (.slice (some ⟨g, 0, none⟩) n c) (P ++ ut R ++ S)) ∧ Below base w w' := by
  obtain ⟨y, hy⟩ : ∃ y, V = [y] := by
    rcases V with _ | ⟨x, _ | ⟨y, U⟩⟩
    · simp at h1
    · exact ⟨x, rfl⟩
    · simp at h1
  subst hy
  have HO0 := Lib.hid h
  have HU := Lib.hid hU
  have HT := Lib.hid ht
  have HA := Lib.hid ha
  have hnl := h.capLen
  simp only [List.length_append, ut_length, List.length_singleton] at hnl
  simp only [List.length_singleton] at hb
  have e1 : ((m : Int) - (a : Int) == 1) = false := by simp; omega
  have e2 : ((b : Int) - (m : Int) == 1) = true := by simp; omega
  have hbn : b ≤ n := by omega
  have a0 : (0 : Int) ≤ (a : Int) := by omega
  have am : (a : Int) < (m : Int) := by omega
  have mb : (m : Int) < (b : Int) := by omega
  have bn : (b : Int) ≤ (n : Int) := by omega
  have n1 : (n : Int) ≤ 100000 := by omega
  have mn : (m : Int) < (n : Int) := by omega
  have HM := Lib.hid hm
  have HBL := Lib.hid hb
  have hax : (P ++ ut U ++ (ut [y] ++ S))[m]? = some y.1 := by
    rw [List.getElem?_append_right (by simp only [List.length_append, ut_length]; omega), show m - (P ++ ut U).length = 0 by simp only [List.length_append, ut_length]; omega]
    simp [ut]
  have hUx : ∀ (i : Nat) (v : Idt × Nat), U[i]? = some v → (P ++ ut U ++ (ut [y] ++ S))[a + i]? = some v.1 := fun i v hv => by
    have hl := (List.getElem?_eq_some_iff.1 hv).1
    rw [List.getElem?_append_left (by simp only [List.length_append, ut_length]; omega), List.getElem?_append_right (by omega), ha, Nat.add_sub_cancel_left]
    unfold ut; rw [List.getElem?_map, hv]; rfl
  have HAX := Lib.hid hax
  have HUX := Lib.hid hUx
  clear h hU hV ht ha h1 hu2 hnl hm hb hax hUx
  go_enter Tryz.func117, Tryz.ntmps117
  go_wp2_with fail
  go_loopw [14, 15, 16] (fun s t _ wr => ∃ i j : Nat, s = .int .i64 (i : Int) ∧ t = .int .i64 (j : Int) ∧ a ≤ i ∧ i ≤ j ∧ j ≤ m ∧ (∀ q v, q < i - a → U[q]? = some v → v.1.idx ≤ y.1.idx) ∧ (∀ q v, j - a ≤ q → U[q]? = some v → y.1.idx < v.1.idx) ∧ Own 3 idRow 42 base wr (.slice (some ⟨g, 0, none⟩) n c) (P ++ ut U ++ (ut [y] ++ S)) ∧ Below base w wr) (fun s t _ _ => ((sOf t) - (sOf s)).toNat)
  case atStart => exact ⟨a, m, rfl, rfl, Nat.le_refl _, by have := HM.out; omega, Nat.le_refl _, fun q v hq => by omega, fun q v hq hv => by have := (List.getElem?_eq_some_iff.1 hv).1; have := HM.out; omega, HO0.out, Below.refl _ _⟩
  case round =>
    clear HO0
    obtain ⟨i, j, rfl, rfl, hmi, hij, hjb, hlo, hhi, ho, hB⟩ := hrel
    have HLO := Lib.hid hlo
    have HHI := Lib.hid hhi
    have HO := Lib.hid ho
    have HB := Lib.hid hB
    have j0 : (a : Int) ≤ (i : Int) := by omega
    have j1 : (i : Int) ≤ (j : Int) := by omega
    have j2 : (j : Int) ≤ (m : Int) := by omega
    clear hlo hhi ho hB
    by_cases hlt : i < j
    · have d0 : decide ((i : Int) < (j : Int)) = true := decide_eq_true (by omega)
      have d1 : (i : Int) < (j : Int) := by omega
      obtain ⟨q, hq⟩ : ∃ q, (i + j) / 2 = q := ⟨_, rfl⟩
      obtain ⟨v, hv⟩ : ∃ v, U[q - a]? = some v := ⟨_, List.getElem?_eq_getElem (by have := HM.out; omega)⟩
      have hqi : i ≤ q := by omega
      have hqj : q < j := by omega
      have hqe : ((i : Int) + (j : Int)) / 2 = (q : Int) := by omega
      have q0 : (0 : Int) ≤ (q : Int) := by omega
      have q1 : (q : Int) < (n : Int) := by omega
      have hdv : (P ++ ut U ++ (ut [y] ++ S))[q]? = some v.1 := by have h := HUX.out _ _ hv; rwa [show a + (q - a) = q by omega] at h
      have HDV := Lib.hid hdv
      have HVQ := Lib.hid hv
      have HQE := Lib.hid hqe
      obtain ⟨W5, hW5⟩ : ∃ z, z = wr := ⟨_, rfl⟩
      rw [← hW5] at HO HB
      clear hq hdv hv hqe
      go_upto_region 17 with fail
      rw [HQE.out, ← hW5]
      clear hW5
      obtain ⟨g0, g1, g2⟩ := HO.out.extRow HDV.out
      obtain ⟨l0, l1, l2⟩ := HO.out.extRow HAX.out
      by_cases hvx : y.1.idx < v.1.idx
      · have CC : Hid (∀ x5 : Ext W5, Calls Tryz.prog 62 #[.agg #[.int .i64 y.1.idx, .int .i64 y.1.trm, .int .i64 y.1.knd], .agg #[.int .i64 v.1.idx, .int .i64 v.1.trm, .int .i64 v.1.knd]] x5.wd fun e w' => e = .returned (.int .i64 (-1)) ∧ Below x5.wd.heap.size x5.wd w') := fun x5 => by
          have h := idtCmp y.1 v.1 x5.wd
          rw [cmpN_lt hvx] at h; exact h
        have HVX2 := Lib.hid hvx
        clear hvx
        refine wp_region_ext (by kernel_rfl) (by kernel_rfl) ?_
        repeat (go_big_quiet_step ((rename_i x5; (go_at_call 62; exact ext_of x5 (CC.out x5)))))
        refine wpQuiet_nil ?_
        intro _ hw'
        obtain ⟨x6, hw''⟩ := hw'
        subst hw''
        clear g0 g1 g2 l0 l1 l2
        go_wp2_with fail
        have HO6 := Lib.hid (HO.out.later x6.low)
        have HB6 := Lib.hid (HB.out.trans (x6.low.mono (by have := HB.out.size; have := (HO.out.block (x := g) rfl).1; have := (HO.out.block (x := g) rfl).2; omega)))
        go_roundw
        case rel =>
          refine ⟨i, q, rfl, rfl, by omega, by omega, by omega, HLO.out, fun t z ht hz => ?_, HO6.out, HB6.out⟩
          rcases Nat.lt_or_ge (q - a) t with g1 | g1
          · have := key_le (sl_at HU.out HVQ.out hz g1); have := HVX2.out; omega
          · rw [show t = q - a by omega, HVQ.out] at hz; cases hz; exact HVX2.out
        case measure => first | (simp [sOf]; done) | (simp [sOf]; omega)
      · have CD0 : Hid (∃ v0 : Int, 0 ≤ v0 ∧ ∀ x5 : Ext W5, Calls Tryz.prog 62 #[.agg #[.int .i64 y.1.idx, .int .i64 y.1.trm, .int .i64 y.1.knd], .agg #[.int .i64 v.1.idx, .int .i64 v.1.trm, .int .i64 v.1.knd]] x5.wd fun e w' => e = .returned (.int .i64 v0) ∧ Below x5.wd.heap.size x5.wd w') := ⟨cmpN y.1.idx v.1.idx, cmpN_ge (by omega), fun x5 => idtCmp y.1 v.1 x5.wd⟩
        obtain ⟨v0, hv0, hcc⟩ := CD0.out
        have CC := Lib.hid hcc
        have dv : decide (v0 < 0) = false := decide_eq_false (by omega)
        have HVX2 := Lib.hid (show v.1.idx ≤ y.1.idx by omega)
        clear hvx hcc CD0
        refine wp_region_ext (by kernel_rfl) (by kernel_rfl) ?_
        repeat (go_big_quiet_step ((rename_i x5; (go_at_call 62; exact ext_of x5 (CC.out x5)))))
        refine wpQuiet_nil ?_
        intro _ hw'
        obtain ⟨x6, hw''⟩ := hw'
        subst hw''
        clear g0 g1 g2 l0 l1 l2
        go_wp2_with fail
        have HO6 := Lib.hid (HO.out.later x6.low)
        have HB6 := Lib.hid (HB.out.trans (x6.low.mono (by have := HB.out.size; have := (HO.out.block (x := g) rfl).1; have := (HO.out.block (x := g) rfl).2; omega)))
        go_roundw
        case rel =>
          refine ⟨q + 1, j, by go_num, rfl, by omega, by omega, by omega, fun t z ht hz => ?_, HHI.out, HO6.out, HB6.out⟩
          rcases Nat.lt_or_ge t (q - a) with g1 | g1
          · have := key_le (sl_at HU.out hz HVQ.out g1); have := HVX2.out; omega
          · rw [show t = q - a by omega, HVQ.out] at hz; cases hz; exact HVX2.out
        case measure => first | (simp [sOf]; done) | (simp [sOf]; omega)
    · have d0 : decide ((i : Int) < (j : Int)) = false := decide_eq_false (by omega)
      obtain ⟨d, hd⟩ : ∃ d, i - a = d := ⟨_, rfl⟩
      have hie : (i : Int) = (a : Int) + (d : Int) := by omega
      have hdl : d ≤ U.length := by have := HM.out; omega
      have HR := Lib.hid (mrg_one_right (y := y) HU.out HT.out hdl (fun q v hq hv => HLO.out q v (by omega) hv) (fun q v hq hv => HHI.out q v (by omega) hv))
      have HIE := Lib.hid hie
      have hji : (j : Int) ≤ (i : Int) := by omega
      have HO2 := Lib.hid (show Own 3 idRow 42 base wr (.slice (some ⟨g, 0, none⟩) n c) (P ++ ut (U.take U.length) ++ y.1 :: (ut (U.drop U.length) ++ S)) by have h := HO.out; simpa [ut] using h)
      have HDL := Lib.hid hdl
      have hmk : (m : Int) = ((a + U.length : Nat) : Int) := by have := HM.out; omega
      have HMK := Lib.hid hmk
      rw [hie]
      clear hd hie HLO HHI HO hlt hdl j0 j1 j2 hjb hij hmi d0 hmk
      have d0 : decide ((a : Int) + (d : Int) < (j : Int)) = false := decide_eq_false (by have := HIE.out; omega)
      clear hji
      go_wp2_with fail
      go_loopw [17] (fun s wr => ∃ t : Nat, s = .int .i64 ((a + t : Nat) : Int) ∧ d ≤ t ∧ t ≤ U.length ∧ Own 3 idRow 42 base wr (.slice (some ⟨g, 0, none⟩) n c) (P ++ ut (U.take t) ++ y.1 :: (ut (U.drop t) ++ S)) ∧ Below base w wr) (fun s _ => (sOf s).toNat)
      case atStart => exact ⟨U.length, congrArg (Value.int .i64) HMK.out, HDL.out, by omega, HO2.out, HB.out⟩
      case round =>
        clear HO2 HB
        obtain ⟨t, rfl, htd, htl, ho, hB⟩ := hrel
        have HB := Lib.hid hB
        have HO := Lib.hid ho
        clear hB
        by_cases hlt : d < t
        · obtain ⟨t', rfl⟩ : ∃ t', t = t' + 1 := ⟨t - 1, by omega⟩
          obtain ⟨kq, hkq⟩ : ∃ kq, a + t' = kq := ⟨_, rfl⟩
          rw [show ((a + (t' + 1) : Nat) : Int) = (kq : Int) + 1 by omega]
          have HKQ := Lib.hid hkq
          have k0 : (0 : Int) ≤ (kq : Int) := by omega
          have k1 : (kq : Int) + 1 < (n : Int) := by have := HM.out; omega
          have d1 : decide ((a : Int) + (d : Int) < (kq : Int) + 1) = true := decide_eq_true (by omega)
          have d2 : (a : Int) + (d : Int) < (kq : Int) + 1 := by omega
          obtain ⟨z, hz⟩ : ∃ z, U[t']? = some z := ⟨_, List.getElem?_eq_getElem (by omega)⟩
          have hdr : U.drop t' = z :: U.drop (t' + 1) := by
            obtain ⟨h, rfl⟩ := List.getElem?_eq_some_iff.1 hz
            exact List.drop_eq_getElem_cons h
          have htk : U.take (t' + 1) = U.take t' ++ [z] := by rw [List.take_add_one, hz]; rfl
          obtain ⟨bx, by_, bs⟩ := back_step (P := P) (A := ut (U.take t')) (B := ut (U.drop (t' + 1))) (S := S) (x := y.1) (y := z.1) (j := kq + 1) (by simp only [List.length_append, ut_length, List.length_take]; have := HA.out; omega)
          rw [Nat.add_sub_cancel] at by_ bs
          have HOS := Lib.hid (show Own 3 idRow 42 base wr (.slice (some ⟨g, 0, none⟩) n c) (P ++ (ut (U.take t') ++ [z.1]) ++ y.1 :: (ut (U.drop (t' + 1)) ++ S)) by have h := ho; rw [htk, ut_append] at h; exact h)
          have HSW := Lib.hid (HOS.out.swap bx by_ (by omega))
          have HBS := Lib.hid bs
          have HDR := Lib.hid hdr
          obtain ⟨c0, c1, c2⟩ := HOS.out.row3 bx
          obtain ⟨e0, e10, e20⟩ := HOS.out.row3 by_
          obtain ⟨f0, z0⟩ := HOS.out.free3
          have e3 : ((kq : Int) + 1).toNat = kq + 1 := by omega
          obtain ⟨W6, hW6⟩ : ∃ z, z = wr := ⟨_, rfl⟩
          rw [← hW6] at HB HSW c0 c1 c2 e0 e10 e20 f0 z0
          rw [← hW6]
          clear ho hkq hz hdr htk bx by_ bs hW6
          go_wp2_with fail
          go_region
          go_wp2_with fail
          go_roundw
          case rel => exact ⟨t', by rw [HKQ.out], by omega, by omega, by rw [HDR.out]; rw [HBS.out] at HSW; exact HSW.out.1.drew, HB.out.trans HSW.out.2.drew⟩
          case measure => first | (simp [sOf]; done) | (simp [sOf]; omega)
        · have hte : t = d := by omega
          rw [show ((a + t : Nat) : Int) = (a : Int) + (d : Int) by omega]
          have d1 : decide ((a : Int) + (d : Int) < (a : Int) + (d : Int)) = false := decide_eq_false (by omega)
          have HF := Lib.hid (show Own 3 idRow 42 base wr (.slice (some ⟨g, 0, none⟩) n c) (P ++ ut (U.take d ++ [y] ++ U.drop d) ++ S) by have h := ho; rw [hte] at h; simpa [ut] using h)
          clear ho hte
          go_wp2_with fail
          exact bodyPost_ret (v := .tuple #[]) (by simp [results, Tryz.results117]) rfl ⟨rfl, ⟨_, HR.out, by simpa [List.append_assoc] using HF.out⟩, HB.out⟩
end Go.Proofs.YtglkgmijhdkhpaaGreatDoor
