/-
  Merged: SortIdt5, SortIdt6.
-/
import Derived.Test.YtglkgmijhdkhpaaGreatDoorHt14
/-
  slices.SortStableFunc's symMerge at identities, the rest: contract.
-/
set_option linter.unusedVariables false
set_option linter.unusedSimpArgs false
namespace Go.Proofs.YtglkgmijhdkhpaaGreatDoor
open Go.RowKit


/-- symMerge, for ranges of at most N. -/
def SymC (N : Nat) : Prop := ∀ (base g n c : Nat) (P S : List Idt) (U V : List (Idt × Nat)) (a m b : Nat) (w : World), b - a ≤ N → Own 3 idRow 42 base w (.slice (some ⟨g, 0, none⟩) n c) (P ++ ut U ++ (ut V ++ S)) → SL Idt.idx U → SL Idt.idx V → TG U V → P.length = a → a + U.length = m → m + V.length = b → n ≤ 100000 → 0 < U.length → 0 < V.length →
    Calls Tryz.prog 117 #[.slice (some ⟨g, 0, none⟩) n c, .int .i64 (a : Int), .int .i64 (m : Int), .int .i64 (b : Int), .func (.func 62) #[] #[]] w fun e w' => e = .returned (.tuple #[]) ∧ (∃ R, Mrg Idt.idx U V R ∧ Own 3 idRow 42 base w' (.slice (some ⟨g, 0, none⟩) n c) (P ++ ut R ++ S)) ∧ Below base w w'
theorem ut_split (U : List (Idt × Nat)) (c : Nat) : ut U = ut (U.take c) ++ ut (U.drop c) := by rw [← ut_append, List.take_append_drop]
set_option maxRecDepth 100000 in
set_option maxHeartbeats 16000000 in
theorem idtSym3 (N : Nat) (IH : SymC N) (base g n c : Nat) (P S : List Idt) (U V : List (Idt × Nat)) (a m b : Nat) (w : World) (hN : b - a ≤ N + 1) (h : Own 3 idRow 42 base w (.slice (some ⟨g, 0, none⟩) n c) (P ++ ut U ++ (ut V ++ S))) (hU : SL Idt.idx U) (hV : SL Idt.idx V) (ht : TG U V) (ha : P.length = a) (hm : a + U.length = m) (hb : m + V.length = b) (hn : n ≤ 100000) (hu2 : 2 ≤ U.length) (hv2 : 2 ≤ V.length) :
    Calls Tryz.prog 117 #[.slice (some ⟨g, 0, none⟩) n c, .int .i64 (a : Int), .int .i64 (m : Int), .int .i64 (b : Int), .func (.func 62) #[] #[]] w fun e w' => e = .returned (.tuple #[]) ∧ (∃ R, Mrg Idt.idx U V R ∧ Own 3 idRow 42 base w' (.slice (some ⟨g, 0, none⟩) n c) (P ++ ut R ++ S)) ∧ Below base w w' := by
  have HO0 := Lib.hid h
  have HU := Lib.hid hU
  have HV := Lib.hid hV
  have HT := Lib.hid ht
  have HA := Lib.hid ha
  have HIH := Lib.hid IH
  have hnl := h.capLen
  simp only [List.length_append, ut_length] at hnl
  have e1 : ((m : Int) - (a : Int) == 1) = false := by simp; omega
  have e2 : ((b : Int) - (m : Int) == 1) = false := by simp; omega
  obtain ⟨q, hq⟩ : ∃ q, (a + b) / 2 = q := ⟨_, rfl⟩
  have hqe := Lib.hid (show ((a : Int) + (b : Int)) / 2 = (q : Int) by omega)
  have hLH : ∃ lo hi : Nat, (a ≤ lo ∧ lo ≤ hi ∧ hi ≤ m ∧ hi ≤ q ∧ q + m ≤ lo + b) ∧ (lo = a ∨ lo + b = q + m) ∧ (hi = q ∨ hi = m) ∧ ((q < m ∧ lo + b = q + m ∧ hi = q) ∨ (m ≤ q ∧ lo = a ∧ hi = m)) := by
    by_cases hqm : q < m
    · exact ⟨q + m - b, q, ⟨by omega, by omega, by omega, by omega, by omega⟩, .inr (by omega), .inl rfl, .inl ⟨hqm, by omega, rfl⟩⟩
    · exact ⟨a, m, ⟨by omega, by omega, by omega, by omega, by omega⟩, .inl rfl, .inr rfl, .inr ⟨by omega, rfl, rfl⟩⟩
  obtain ⟨lo, hi, hL1, hL2, hL3, hL4⟩ := hLH
  have HL1 := Lib.hid hL1
  have HL2 := Lib.hid hL2
  have HL3 := Lib.hid hL3
  have HL4 := Lib.hid hL4
  have a0 : (0 : Int) ≤ (a : Int) := by omega
  have am : (a : Int) < (m : Int) := by omega
  have mb : (m : Int) < (b : Int) := by omega
  have bn : (b : Int) ≤ (n : Int) := by omega
  have n1 : (n : Int) ≤ 100000 := by omega
  have aq : (a : Int) < (q : Int) := by omega
  have qb : (q : Int) < (b : Int) := by omega
  have HSZ := Lib.hid (show q - a ≤ N ∧ b - q ≤ N by omega)
  have HM := Lib.hid hm
  have HBL := Lib.hid hb
  have hUx : ∀ (i : Nat) (v : Idt × Nat), U[i]? = some v → (P ++ ut U ++ (ut V ++ S))[a + i]? = some v.1 := fun i v hv => by
    have hl := (List.getElem?_eq_some_iff.1 hv).1
    rw [List.getElem?_append_left (by simp only [List.length_append, ut_length]; omega), List.getElem?_append_right (by omega), ha, Nat.add_sub_cancel_left]
    unfold ut; rw [List.getElem?_map, hv]; rfl
  have hVx : ∀ (i : Nat) (v : Idt × Nat), V[i]? = some v → (P ++ ut U ++ (ut V ++ S))[m + i]? = some v.1 := fun i v hv => by
    have hl := (List.getElem?_eq_some_iff.1 hv).1
    rw [List.getElem?_append_right (by simp only [List.length_append, ut_length]; omega), show m + i - (P ++ ut U).length = i by simp only [List.length_append, ut_length]; omega, List.getElem?_append_left (by rw [ut_length]; exact hl)]
    unfold ut; rw [List.getElem?_map, hv]; rfl
  have HUX := Lib.hid hUx
  have HVX := Lib.hid hVx
  have hml := Lib.hid hnl
  clear IH h hU hV ht ha hu2 hv2 hnl hm hb hUx hVx hq hL1 hL2 hL3 hL4 hN
  go_enter Tryz.func117, Tryz.ntmps117
  go_upto_region 25 with fail
  rw [hqe.out]
  go_upto_region 27 with fail
  go_cut [140] (fun v wx => v = .bool (decide (q < m)) ∧ w = wx)
  case first => as_aux_lemma =>
    go_wp2_with fail
    go_meet
    exact ⟨rfl, rfl⟩
  case rest =>
  obtain ⟨rfl, rfl⟩ := hcut
  go_upto_if 140 with fail
  go_cut [20, 21] (fun s t wx => s = .int .i64 (lo : Int) ∧ t = .int .i64 (hi : Int) ∧ w = wx)
  case first => as_aux_lemma =>
    rcases HL4.out with ⟨g1, g2, g3⟩ | ⟨g1, g2, g3⟩
    · have d1 : decide (q < m) = true := decide_eq_true g1
      have d2 : (q : Int) < (m : Int) := by omega
      have HG2 := Lib.hid (show (q : Int) + (m : Int) - (b : Int) = (lo : Int) by omega)
      have HG3 := Lib.hid (show (q : Int) = (hi : Int) by omega)
      have z0 : (0 : Int) ≤ (q : Int) + (m : Int) - (b : Int) := by omega
      rw [d1]
      clear g1 g2 g3 d1
      go_wp2_with fail
      go_meet
      exact ⟨congrArg (Value.int .i64) HG2.out, congrArg (Value.int .i64) HG3.out, rfl⟩
    · have d1 : decide (q < m) = false := decide_eq_false (by omega)
      have HG2 := Lib.hid g2
      have HG3 := Lib.hid g3
      rw [d1]
      clear g1 g2 g3 d1
      go_wp2_with fail
      go_meet
      exact ⟨by rw [HG2.out], by rw [HG3.out], rfl⟩
  case rest =>
  obtain ⟨rfl, rfl, rfl⟩ := hcut
  go_wp2_with fail
  go_loopw [20, 21, 23] (fun s t _ wr => ∃ i r : Nat, s = .int .i64 (i : Int) ∧ t = .int .i64 (r : Int) ∧ lo ≤ i ∧ i ≤ r ∧ r ≤ hi ∧ (i = lo ∨ ∃ u v, U[i - 1 - a]? = some u ∧ V[q - i]? = some v ∧ u.1.idx ≤ v.1.idx) ∧ (r = hi ∨ ∃ u v, U[r - a]? = some u ∧ V[q - 1 - r]? = some v ∧ v.1.idx < u.1.idx) ∧ Own 3 idRow 42 base wr (.slice (some ⟨g, 0, none⟩) n c) (P ++ ut U ++ (ut V ++ S)) ∧ Below base w wr) (fun s t _ _ => ((sOf t) - (sOf s)).toNat)
  case atStart => exact ⟨lo, hi, rfl, rfl, Nat.le_refl _, HL1.out.2.1, Nat.le_refl _, .inl rfl, .inl rfl, HO0.out, Below.refl _ _⟩
  case round =>
    clear HO0
    obtain ⟨i, r, rfl, rfl, hli, hir, hrh, hlo, hhi, ho, hB⟩ := hrel
    have HLO := Lib.hid hlo
    have HHI := Lib.hid hhi
    have HO := Lib.hid ho
    have HB := Lib.hid hB
    have hLL := HL1.out
    have j0 : (a : Int) ≤ (i : Int) := by omega
    have j1 : (i : Int) ≤ (r : Int) := by omega
    have j2 : (r : Int) ≤ (m : Int) := by omega
    have j3 : (r : Int) ≤ (q : Int) := by omega
    clear hlo hhi ho hB
    by_cases hlt : i < r
    · as_aux_lemma =>
      have d0 : decide ((i : Int) < (r : Int)) = true := decide_eq_true (by omega)
      have d1 : (i : Int) < (r : Int) := by omega
      obtain ⟨cc, hc⟩ : ∃ cc, (i + r) / 2 = cc := ⟨_, rfl⟩
      have hqe2 := Lib.hid (show ((i : Int) + (r : Int)) / 2 = (cc : Int) by omega)
      have hci : i ≤ cc := by omega
      have hcr : cc < r := by omega
      obtain ⟨u, hu⟩ : ∃ u, U[cc - a]? = some u := ⟨_, List.getElem?_eq_getElem (by have := HM.out; omega)⟩
      obtain ⟨v, hv⟩ : ∃ v, V[q - 1 - cc]? = some v := ⟨_, List.getElem?_eq_getElem (by have := HBL.out; omega)⟩
      obtain ⟨pc, hpc⟩ : ∃ pc, m + (q - 1 - cc) = pc := ⟨_, rfl⟩
      have hpe := Lib.hid (show (q : Int) + (m : Int) - 1 - (cc : Int) = (pc : Int) by omega)
      have p0 : (0 : Int) ≤ (q : Int) + (m : Int) - 1 - (cc : Int) := by omega
      have p1 : (q : Int) + (m : Int) - 1 - (cc : Int) < (n : Int) := by have := HBL.out; omega
      have p2 : ((q : Int) + (m : Int) - 1 - (cc : Int)).toNat = pc := by omega
      have q0 : (0 : Int) ≤ (cc : Int) := by omega
      have q1 : (cc : Int) < (n : Int) := by omega
      have HDU := Lib.hid (show (P ++ ut U ++ (ut V ++ S))[cc]? = some u.1 by have h := HUX.out _ _ hu; rwa [show a + (cc - a) = cc by omega] at h)
      have HDV := Lib.hid (show (P ++ ut U ++ (ut V ++ S))[pc]? = some v.1 by have h := HVX.out _ _ hv; rwa [hpc] at h)
      have HUQ := Lib.hid hu
      have HVQ := Lib.hid hv
      have HPC := Lib.hid hpc
      obtain ⟨W5, hW5⟩ : ∃ z, z = wr := ⟨_, rfl⟩
      rw [← hW5] at HO HB
      clear hc hu hv hpc hLL
      go_upto_region 35 with fail
      rw [hqe2.out, ← hW5]
      clear hW5
      obtain ⟨g0, g1, g2⟩ := HO.out.extRow HDV.out
      obtain ⟨l0, l1, l2⟩ := HO.out.extRow HDU.out
      by_cases hvx : v.1.idx < u.1.idx
      · have CC : Hid (∀ x5 : Ext W5, Calls Tryz.prog 62 #[.agg #[.int .i64 v.1.idx, .int .i64 v.1.trm, .int .i64 v.1.knd], .agg #[.int .i64 u.1.idx, .int .i64 u.1.trm, .int .i64 u.1.knd]] x5.wd fun e w' => e = .returned (.int .i64 (-1)) ∧ Below x5.wd.heap.size x5.wd w') := fun x5 => by
          have h := idtCmp v.1 u.1 x5.wd
          rw [cmpN_lt hvx] at h; exact h
        have HVX2 := Lib.hid hvx
        clear hvx
        refine wp_region_ext (by kernel_rfl) (by kernel_rfl) ?_
        repeat (go_big_quiet_step ((rename_i x5; (go_at_call 62; exact ext_of x5 (CC.out x5)))))
        refine wpQuiet_nil ?_
        intro _ hw'
        obtain ⟨x6, hw''⟩ := hw'
        subst hw''
        clear g0 g1 g2 l0 l1 l2
        go_wp2_with fail
        have HO6 := Lib.hid (HO.out.later x6.low)
        have HB6 := Lib.hid (HB.out.trans (x6.low.mono (by have := HB.out.size; have := (HO.out.block (x := g) rfl).1; have := (HO.out.block (x := g) rfl).2; omega)))
        go_roundw
        case rel => exact ⟨i, cc, rfl, rfl, by omega, by omega, by omega, HLO.out, .inr ⟨u, v, HUQ.out, HVQ.out, HVX2.out⟩, HO6.out, HB6.out⟩
        case measure => first | (simp [sOf]; done) | (simp [sOf]; omega)
      · have CD0 : Hid (∃ v0 : Int, 0 ≤ v0 ∧ ∀ x5 : Ext W5, Calls Tryz.prog 62 #[.agg #[.int .i64 v.1.idx, .int .i64 v.1.trm, .int .i64 v.1.knd], .agg #[.int .i64 u.1.idx, .int .i64 u.1.trm, .int .i64 u.1.knd]] x5.wd fun e w' => e = .returned (.int .i64 v0) ∧ Below x5.wd.heap.size x5.wd w') := ⟨cmpN v.1.idx u.1.idx, cmpN_ge (by omega), fun x5 => idtCmp v.1 u.1 x5.wd⟩
        obtain ⟨v0, hv0, hcc⟩ := CD0.out
        have CC := Lib.hid hcc
        have dv : decide (v0 < 0) = false := decide_eq_false (by omega)
        have HVX2 := Lib.hid (show u.1.idx ≤ v.1.idx by omega)
        clear hvx hcc CD0
        refine wp_region_ext (by kernel_rfl) (by kernel_rfl) ?_
        repeat (go_big_quiet_step ((rename_i x5; (go_at_call 62; exact ext_of x5 (CC.out x5)))))
        refine wpQuiet_nil ?_
        intro _ hw'
        obtain ⟨x6, hw''⟩ := hw'
        subst hw''
        clear g0 g1 g2 l0 l1 l2
        go_wp2_with fail
        have HO6 := Lib.hid (HO.out.later x6.low)
        have HB6 := Lib.hid (HB.out.trans (x6.low.mono (by have := HB.out.size; have := (HO.out.block (x := g) rfl).1; have := (HO.out.block (x := g) rfl).2; omega)))
        go_roundw
        case rel => exact ⟨cc + 1, r, by go_num, rfl, by omega, by omega, by omega, .inr ⟨u, v, by rw [show cc + 1 - 1 - a = cc - a by omega]; exact HUQ.out, by rw [show q - (cc + 1) = q - 1 - cc by omega]; exact HVQ.out, HVX2.out⟩, HHI.out, HO6.out, HB6.out⟩
        case measure => first | (simp [sOf]; done) | (simp [sOf]; omega)
    · have d0 : decide ((i : Int) < (r : Int)) = false := decide_eq_false (by omega)
      have hire : i = r := by omega
      obtain ⟨cU, hcU⟩ : ∃ x, i - a = x := ⟨_, rfl⟩
      obtain ⟨dV, hdV⟩ : ∃ x, q - i = x := ⟨_, rfl⟩
      have hmU := HM.out
      have hbV := HBL.out
      have hcl : cU ≤ U.length := by omega
      have hdl : dV ≤ V.length := by omega
      have hx := cross_cut HU.out HV.out HT.out (c := cU) (d := dV)
        (by
          rcases HLO.out with h | ⟨u, v, h1, h2, h3⟩
          · rcases HL2.out with g | g
            · left; omega
            · right; left; omega
          · exact .inr (.inr ⟨u, v, by rw [← hcU, show i - a - 1 = i - 1 - a by omega]; exact h1, by rw [← hdV]; exact h2, h3⟩))
        (by
          rcases HHI.out with h | ⟨u, v, h1, h2, h3⟩
          · rcases HL3.out with g | g
            · right; left; omega
            · left; omega
          · exact .inr (.inr ⟨u, v, by rw [← hcU, hire]; exact h1, by rw [← hdV, hire, show q - r - 1 = q - 1 - r by omega]; exact h2, h3⟩)) hcl hdl
      have HX1 := Lib.hid hx.1
      have HX2 := Lib.hid hx.2
      obtain ⟨U1, hU1⟩ : ∃ x, U.take cU = x := ⟨_, rfl⟩
      obtain ⟨U2, hU2⟩ : ∃ x, U.drop cU = x := ⟨_, rfl⟩
      obtain ⟨V1, hV1⟩ : ∃ x, V.take dV = x := ⟨_, rfl⟩
      obtain ⟨V2, hV2⟩ : ∃ x, V.drop dV = x := ⟨_, rfl⟩
      have hUe : U = U1 ++ U2 := by rw [← hU1, ← hU2, List.take_append_drop]
      have hVe : V = V1 ++ V2 := by rw [← hV1, ← hV2, List.take_append_drop]
      have lU1 : U1.length = cU := by rw [← hU1, List.length_take]; omega
      have lU2 : U2.length = m - i := by rw [← hU2, List.length_drop]; omega
      have lV1 : V1.length = dV := by rw [← hV1, List.length_take]; omega
      have lV2 : V2.length = V.length - dV := by rw [← hV2, List.length_drop]
      rw [hU1, hV2] at HX1
      rw [hV1, hU2] at HX2
      clear hx
      have HUE := Lib.hid hUe
      have HVE := Lib.hid hVe
      obtain ⟨e, he⟩ : ∃ e, q + m - i = e := ⟨_, rfl⟩
      have HE := Lib.hid (show (q : Int) + (m : Int) - (i : Int) = (e : Int) by omega)
      have HO2 := Lib.hid (show Own 3 idRow 42 base wr (.slice (some ⟨g, 0, none⟩) n c) (P ++ ut U1 ++ ut U2 ++ ut V1 ++ (ut V2 ++ S)) by have h := HO.out; rw [hUe, hVe] at h; simpa [ut, List.append_assoc] using h)
      have hie : (i : Int) ≤ (e : Int) := by omega
      have hE1 : U1.length = i - a ∧ U2.length = m - i ∧ V1.length = q - i ∧ V2.length = b - e ∧ a ≤ i ∧ i ≤ m ∧ i ≤ q ∧ q ≤ e ∧ m ≤ e ∧ e ≤ b ∧ a < q ∧ q < b ∧ q + m = e + i := by
        refine ⟨by omega, by omega, by omega, by omega, by omega, by omega, by omega, by omega, by omega, by omega, by omega, by omega, by omega⟩
      have HLS := Lib.hid hE1
      have HEB := Lib.hid (show P.length + i = P.length + i from rfl)
      clear hire hcU hdV hcl hdl hU1 hU2 hV1 hV2 hUe hVe lU1 lU2 lV1 lV2 he HLO HHI HO hE1 hmU hbV hLL hli hir hrh j0 j1 j2 j3
      have y0 : (0 : Int) ≤ (i : Int) := by omega
      have y1 : (i : Int) ≤ (q : Int) := by have := HLS.out; omega
      have y2 : (i : Int) ≤ (m : Int) := by have := HLS.out; omega
      go_upto_region 39 with fail
      rw [HE.out]
      clear d0 y1 y2 hlt
      go_cut [185] (fun v wx => v = .bool (decide (i < m ∧ m < e)) ∧ wr = wx)
      case first => as_aux_lemma =>
        by_cases h1 : i < m
        · have b1 : decide ((i : Int) < (m : Int)) = true := decide_eq_true (by omega)
          have b1' : (i : Int) < (m : Int) := by omega
          by_cases h2 : m < e
          · have b2 : decide ((m : Int) < (e : Int)) = true := decide_eq_true (by omega)
            have b2' : (m : Int) < (e : Int) := by omega
            have HD := Lib.hid (decide_eq_true (show i < m ∧ m < e from ⟨h1, h2⟩))
            have b2n : decide (m < e) = true := decide_eq_true h2
            have b1n : decide (i < m) = true := decide_eq_true h1
            go_wp2_with fail
            go_meet
            exact ⟨congrArg Value.bool (by rw [HD.out]; try simp [h1, h2]), rfl⟩
          · have b2 : decide ((m : Int) < (e : Int)) = false := decide_eq_false (by omega)
            have HD := Lib.hid (decide_eq_false (show ¬ (i < m ∧ m < e) from fun h => h2 h.2))
            have b2n : decide (m < e) = false := decide_eq_false h2
            have b1n : decide (i < m) = true := decide_eq_true h1
            go_wp2_with fail
            go_meet
            exact ⟨congrArg Value.bool (by rw [HD.out]; try simp [h1, h2]), rfl⟩
        · have b1 : decide ((i : Int) < (m : Int)) = false := decide_eq_false (by omega)
          have HD := Lib.hid (decide_eq_false (show ¬ (i < m ∧ m < e) from fun h => h1 h.1))
          have b1n : decide (i < m) = false := decide_eq_false h1
          go_wp2_with fail
          go_meet
          exact ⟨congrArg Value.bool (by rw [HD.out]; try simp [h1]), rfl⟩
      case rest =>
      obtain ⟨rfl, rfl⟩ := hcut
      go_upto_if 185 with fail
      go_cut [] (fun wx => Own 3 idRow 42 base wx (.slice (some ⟨g, 0, none⟩) n c) (P ++ ut U1 ++ ut V1 ++ ut U2 ++ (ut V2 ++ S)) ∧ Below base w wx)
      case first => as_aux_lemma =>
        by_cases hcnd : i < m ∧ m < e
        · have HR : Hid (Calls Tryz.prog 124 #[.slice (some ⟨g, 0, none⟩) n c, .int .i64 (i : Int), .int .i64 (m : Int), .int .i64 (e : Int), .func (.func 62) #[] #[]] wr fun e' w' => e' = .returned (.tuple #[]) ∧ Own 3 idRow 42 base w' (.slice (some ⟨g, 0, none⟩) n c) (P ++ ut U1 ++ ut V1 ++ ut U2 ++ (ut V2 ++ S)) ∧ Below base wr w') := by
            have hls := HLS.out
            have hpa := HA.out
            have hr := rot_begin (P := P ++ ut U1) (A := ut U2) (B := ut V1) (S := ut V2 ++ S) (m := m) (b := e) (by simp only [List.length_append, ut_length]; omega) (by rw [ut_length]; omega)
            rw [show m - (P ++ ut U1).length = m - i by simp only [List.length_append, ut_length]; omega] at hr
            exact idtRot base g n c _ _ _ i m e (m - i) (e - m) wr HO2.out rfl rfl hcnd.1 hcnd.2 hr (by have := hml.out; omega)
          rw [decide_eq_true hcnd]
          clear hcnd
          go_wp2_with (go_at_call 124; (with_reducible refine HR.out.mono ?_); rintro e' w3 ⟨rfl, ho3, hb3⟩)
          go_meet
          exact ⟨ho3, HB.out.trans hb3⟩
        · have HF := Lib.hid (show Own 3 idRow 42 base wr (.slice (some ⟨g, 0, none⟩) n c) (P ++ ut U1 ++ ut V1 ++ ut U2 ++ (ut V2 ++ S)) by
            have hls := HLS.out
            have h := HO2.out
            by_cases h0 : i < m
            · have : V1 = [] := List.eq_nil_of_length_eq_zero (by omega)
              rw [this] at h ⊢; simpa [ut] using h
            · have : U2 = [] := List.eq_nil_of_length_eq_zero (by omega)
              rw [this] at h ⊢; simpa [ut] using h)
          rw [decide_eq_false hcnd]
          clear hcnd
          go_wp2_with fail
          go_meet
          exact ⟨HF.out, HB.out⟩
      case rest =>
      obtain ⟨ho3, hb3⟩ := hcut
      have HO3 := Lib.hid ho3
      have HB3 := Lib.hid hb3
      obtain ⟨W3, hW3⟩ : ∃ z, z = wc := ⟨_, rfl⟩
      rw [← hW3] at HO3 HB3
      rw [← hW3]
      clear hW3 ho3 hb3 HO2 HB
      go_upto_region 41 with fail
      go_cut [199] (fun v wx => v = .bool (decide (a < i ∧ i < q)) ∧ W3 = wx)
      case first => as_aux_lemma =>
        by_cases h1 : a < i
        · have b1 : decide ((a : Int) < (i : Int)) = true := decide_eq_true (by omega)
          have b1' : (a : Int) < (i : Int) := by omega
          by_cases h2 : i < q
          · have b2 : decide ((i : Int) < (q : Int)) = true := decide_eq_true (by omega)
            have b2' : (i : Int) < (q : Int) := by omega
            have HD := Lib.hid (decide_eq_true (show a < i ∧ i < q from ⟨h1, h2⟩))
            have b2n : decide (i < q) = true := decide_eq_true h2
            have b1n : decide (a < i) = true := decide_eq_true h1
            go_wp2_with fail
            go_meet
            exact ⟨congrArg Value.bool (by rw [HD.out]; try simp [h1, h2]), rfl⟩
          · have b2 : decide ((i : Int) < (q : Int)) = false := decide_eq_false (by omega)
            have HD := Lib.hid (decide_eq_false (show ¬ (a < i ∧ i < q) from fun h => h2 h.2))
            have b2n : decide (i < q) = false := decide_eq_false h2
            have b1n : decide (a < i) = true := decide_eq_true h1
            go_wp2_with fail
            go_meet
            exact ⟨congrArg Value.bool (by rw [HD.out]; try simp [h1, h2]), rfl⟩
        · have b1 : decide ((a : Int) < (i : Int)) = false := decide_eq_false (by omega)
          have HD := Lib.hid (decide_eq_false (show ¬ (a < i ∧ i < q) from fun h => h1 h.1))
          have b1n : decide (a < i) = false := decide_eq_false h1
          go_wp2_with fail
          go_meet
          exact ⟨congrArg Value.bool (by rw [HD.out]; try simp [h1]), rfl⟩
      case rest =>
      obtain ⟨rfl, rfl⟩ := hcut
      go_upto_if 199 with fail
      go_cut [] (fun wx => (∃ R1, Mrg Idt.idx U1 V1 R1 ∧ Own 3 idRow 42 base wx (.slice (some ⟨g, 0, none⟩) n c) (P ++ ut R1 ++ (ut U2 ++ (ut V2 ++ S)))) ∧ Below base w wx)
      case first => as_aux_lemma =>
        have hSU : SL Idt.idx U1 := by have h := HU.out; rw [HUE.out] at h; exact (sl_append.1 h).1
        have hSV : SL Idt.idx V1 := by have h := HV.out; rw [HVE.out] at h; exact (sl_append.1 h).1
        have hTT : TG U1 V1 := by
          have h := HT.out
          rw [HUE.out, HVE.out] at h
          exact (h.left (fun x hx => by exact List.mem_append_left _ hx)).right (fun x hx => by exact List.mem_append_left _ hx)
        by_cases hcnd : a < i ∧ i < q
        · have L : Hid (Calls Tryz.prog 117 #[.slice (some ⟨g, 0, none⟩) n c, .int .i64 (a : Int), .int .i64 (i : Int), .int .i64 (q : Int), .func (.func 62) #[] #[]] W3 fun e' w' => e' = .returned (.tuple #[]) ∧ (∃ R1, Mrg Idt.idx U1 V1 R1 ∧ Own 3 idRow 42 base w' (.slice (some ⟨g, 0, none⟩) n c) (P ++ ut R1 ++ (ut U2 ++ (ut V2 ++ S)))) ∧ Below base W3 w') := by
            have hls := HLS.out
            have hpa := HA.out
            refine (HIH.out base g n c (P) (ut U2 ++ (ut V2 ++ S)) U1 V1 a i q W3 HSZ.out.1 (by have h := HO3.out; first | exact h | (simp only [List.append_assoc] at h ⊢; exact h) | (simpa [ut, List.append_assoc] using h)) hSU hSV hTT (by first | omega | (simp only [List.length_append, ut_length]; omega)) (by omega) (by omega) (by have := hml.out; omega) (by omega) (by omega)).mono ?_
            rintro e' w' ⟨r1, ⟨R1, r2, r3⟩, r4⟩
            exact ⟨r1, ⟨R1, r2, by first | exact r3 | (simp only [List.append_assoc] at r3 ⊢; exact r3) | (simpa [ut, List.append_assoc] using r3)⟩, r4⟩
          have HBW := Lib.hid HB3.out
          rw [decide_eq_true hcnd]
          clear hcnd hSU hSV hTT
          go_wp2_with (go_at_call 117; (with_reducible refine L.out.mono ?_); rintro e' w4 ⟨rfl, hr4, hb4⟩)
          go_meet
          exact ⟨hr4, HBW.out.trans hb4⟩
        · have HF : Hid (∃ R1, Mrg Idt.idx U1 V1 R1 ∧ Own 3 idRow 42 base W3 (.slice (some ⟨g, 0, none⟩) n c) (P ++ ut R1 ++ (ut U2 ++ (ut V2 ++ S)))) := by
            have hls := HLS.out
            have h := HO3.out
            by_cases h0 : a < i
            · have h00 : V1 = [] := List.eq_nil_of_length_eq_zero (by omega)
              refine Lib.hid ⟨U1, by rw [h00]; exact mrg_nil_right U1 hSU, ?_⟩
              rw [h00] at h
              simpa [ut, List.append_assoc] using h
            · have h00 : U1 = [] := List.eq_nil_of_length_eq_zero (by omega)
              refine Lib.hid ⟨V1, by rw [h00]; exact mrg_nil_left V1 hSV, ?_⟩
              rw [h00] at h
              simpa [ut, List.append_assoc] using h
          rw [decide_eq_false hcnd]
          clear hcnd hSU hSV hTT
          go_wp2_with fail
          go_meet
          exact ⟨HF.out, HB3.out⟩
      case rest =>
      obtain ⟨⟨R1, hm4, ho4⟩, hb4⟩ := hcut
      have HM1 := Lib.hid hm4
      have HO4 := Lib.hid ho4
      have HB4 := Lib.hid hb4
      obtain ⟨W4, hW4⟩ : ∃ z, z = wc := ⟨_, rfl⟩
      rw [← hW4] at HO4 HB4
      rw [← hW4]
      clear hW4 ho4 hb4 hm4
      go_upto_region 43 with fail
      go_cut [213] (fun v wx => v = .bool (decide (q < e ∧ e < b)) ∧ W4 = wx)
      case first => as_aux_lemma =>
        by_cases h1 : q < e
        · have b1 : decide ((q : Int) < (e : Int)) = true := decide_eq_true (by omega)
          have b1' : (q : Int) < (e : Int) := by omega
          by_cases h2 : e < b
          · have b2 : decide ((e : Int) < (b : Int)) = true := decide_eq_true (by omega)
            have b2' : (e : Int) < (b : Int) := by omega
            have HD := Lib.hid (decide_eq_true (show q < e ∧ e < b from ⟨h1, h2⟩))
            have b2n : decide (e < b) = true := decide_eq_true h2
            have b1n : decide (q < e) = true := decide_eq_true h1
            go_wp2_with fail
            go_meet
            exact ⟨congrArg Value.bool (by rw [HD.out]; try simp [h1, h2]), rfl⟩
          · have b2 : decide ((e : Int) < (b : Int)) = false := decide_eq_false (by omega)
            have HD := Lib.hid (decide_eq_false (show ¬ (q < e ∧ e < b) from fun h => h2 h.2))
            have b2n : decide (e < b) = false := decide_eq_false h2
            have b1n : decide (q < e) = true := decide_eq_true h1
            go_wp2_with fail
            go_meet
            exact ⟨congrArg Value.bool (by rw [HD.out]; try simp [h1, h2]), rfl⟩
        · have b1 : decide ((q : Int) < (e : Int)) = false := decide_eq_false (by omega)
          have HD := Lib.hid (decide_eq_false (show ¬ (q < e ∧ e < b) from fun h => h1 h.1))
          have b1n : decide (q < e) = false := decide_eq_false h1
          go_wp2_with fail
          go_meet
          exact ⟨congrArg Value.bool (by rw [HD.out]; try simp [h1]), rfl⟩
      case rest =>
      obtain ⟨rfl, rfl⟩ := hcut
      go_upto_if 213 with fail
      have hSU : SL Idt.idx U2 := by have h := HU.out; rw [HUE.out] at h; exact (sl_append.1 h).2.1
      have hSV : SL Idt.idx V2 := by have h := HV.out; rw [HVE.out] at h; exact (sl_append.1 h).2.1
      have hTT : TG U2 V2 := by
        have h := HT.out
        rw [HUE.out, HVE.out] at h
        exact (h.left (fun x hx => by exact List.mem_append_right _ hx)).right (fun x hx => by exact List.mem_append_right _ hx)
      by_cases hcnd : q < e ∧ e < b
      · have L : Hid (Calls Tryz.prog 117 #[.slice (some ⟨g, 0, none⟩) n c, .int .i64 (q : Int), .int .i64 (e : Int), .int .i64 (b : Int), .func (.func 62) #[] #[]] W4 fun e' w' => e' = .returned (.tuple #[]) ∧ (∃ R2, Mrg Idt.idx U2 V2 R2 ∧ Own 3 idRow 42 base w' (.slice (some ⟨g, 0, none⟩) n c) (P ++ ut R1 ++ ut R2 ++ S)) ∧ Below base W4 w') := by
          have hls := HLS.out
          have hpa := HA.out
          have hr1 : R1.length = U1.length + V1.length := HM1.out.len
          refine (HIH.out base g n c (P ++ ut R1) (S) U2 V2 q e b W4 HSZ.out.2 (by have h := HO4.out; first | exact h | (simp only [List.append_assoc] at h ⊢; exact h) | (simpa [ut, List.append_assoc] using h)) hSU hSV hTT (by first | omega | (simp only [List.length_append, ut_length]; omega)) (by omega) (by omega) (by have := hml.out; omega) (by omega) (by omega)).mono ?_
          rintro e' w' ⟨r1, ⟨R2, r2, r3⟩, r4⟩
          exact ⟨r1, ⟨R2, r2, by first | exact r3 | (simp only [List.append_assoc] at r3 ⊢; exact r3) | (simpa [ut, List.append_assoc] using r3)⟩, r4⟩
        have HBW := Lib.hid HB4.out
        rw [decide_eq_true hcnd]
        clear hcnd
        go_wp2_with (go_at_call 117; (with_reducible refine L.out.mono ?_); rintro e' w4 ⟨rfl, hr4, hb4⟩)
        obtain ⟨R2, hm2, ho5⟩ := hr4
        have HM2 := Lib.hid hm2
        have HO5 := Lib.hid ho5
        have HB5 := Lib.hid (HBW.out.trans hb4)
        go_end0
        exact ⟨rfl, ⟨R1 ++ R2, by rw [HUE.out, HVE.out]; exact mrg_cut (by rw [← HUE.out]; exact HU.out) (by rw [← HVE.out]; exact HV.out) HX1.out HX2.out HM1.out HM2.out, by have h := HO5.out; simpa [ut, List.append_assoc] using h⟩, HB5.out⟩
      · have HF : Hid (∃ R2, Mrg Idt.idx U2 V2 R2 ∧ Own 3 idRow 42 base W4 (.slice (some ⟨g, 0, none⟩) n c) (P ++ ut R1 ++ ut R2 ++ S)) := by
          have hls := HLS.out
          have h := HO4.out
          by_cases h0 : q < e
          · have h00 : V2 = [] := List.eq_nil_of_length_eq_zero (by omega)
            refine Lib.hid ⟨U2, by rw [h00]; exact mrg_nil_right U2 hSU, ?_⟩
            rw [h00] at h
            simpa [ut, List.append_assoc] using h
          · have h00 : U2 = [] := List.eq_nil_of_length_eq_zero (by omega)
            refine Lib.hid ⟨V2, by rw [h00]; exact mrg_nil_left V2 hSV, ?_⟩
            rw [h00] at h
            simpa [ut, List.append_assoc] using h
        rw [decide_eq_false hcnd]
        clear hcnd
        go_wp2_with fail
        obtain ⟨R2, hm2, ho5⟩ := HF.out
        have HM2 := Lib.hid hm2
        have HO5 := Lib.hid ho5
        have HB5 := Lib.hid HB4.out
        go_end0
        exact ⟨rfl, ⟨R1 ++ R2, by rw [HUE.out, HVE.out]; exact mrg_cut (by rw [← HUE.out]; exact HU.out) (by rw [← HVE.out]; exact HV.out) HX1.out HX2.out HM1.out HM2.out, by have h := HO5.out; simpa [ut, List.append_assoc] using h⟩, HB5.out⟩
end Go.Proofs.YtglkgmijhdkhpaaGreatDoor
/-
  slices.SortStableFunc's symMerge at identities, whole; stable: contract.
-/
set_option linter.unusedVariables false
set_option linter.unusedSimpArgs false
namespace Go.Proofs.YtglkgmijhdkhpaaGreatDoor
open Go.RowKit


theorem symC_all : ∀ N, SymC N := by
  intro N
  induction N with
  | zero =>
    intro base g n c P S U V a m b w hN h hU hV ht ha hm hb hn hu hv
    omega
  | succ N ih =>
    intro base g n c P S U V a m b w hN h hU hV ht ha hm hb hn hu hv
    by_cases h1 : U.length = 1
    · exact idtSym1 base g n c P S U V a m b w h hU hV ht ha hm hb hn h1 hv
    · by_cases h2 : V.length = 1
      · exact idtSym2 base g n c P S U V a m b w h hU hV ht ha hm hb hn h2 (by omega)
      · exact idtSym3 N ih base g n c P S U V a m b w (by omega) h hU hV ht ha hm hb hn (by omega) (by omega)
theorem idtSym (base g n c : Nat) (P S : List Idt) (U V : List (Idt × Nat)) (a m b : Nat) (w : World) (h : Own 3 idRow 42 base w (.slice (some ⟨g, 0, none⟩) n c) (P ++ ut U ++ (ut V ++ S))) (hU : SL Idt.idx U) (hV : SL Idt.idx V) (ht : TG U V) (ha : P.length = a) (hm : a + U.length = m) (hb : m + V.length = b) (hn : n ≤ 100000) (hu : 0 < U.length) (hv : 0 < V.length) :
    Calls Tryz.prog 117 #[.slice (some ⟨g, 0, none⟩) n c, .int .i64 (a : Int), .int .i64 (m : Int), .int .i64 (b : Int), .func (.func 62) #[] #[]] w fun e w' => e = .returned (.tuple #[]) ∧ (∃ R, Mrg Idt.idx U V R ∧ Own 3 idRow 42 base w' (.slice (some ⟨g, 0, none⟩) n c) (P ++ ut R ++ S)) ∧ Below base w w' :=
  symC_all (b - a) base g n c P S U V a m b w (Nat.le_refl _) h hU hV ht ha hm hb hn hu hv

/-- Blocks so far; behind them what stands as it stood. -/
structure PreB (s : Nat) (T0 : List (Idt × Nat)) (cs : List (List (Idt × Nat))) (Rest : List (Idt × Nat)) : Prop where
  each : ∀ c ∈ cs, c.length = s ∧ SL Idt.idx c
  rise : Rest.Pairwise fun x y => x.2 < y.2
  tags : (cs ++ [Rest]).Pairwise TG
  perm : (cs.flatten ++ Rest).Perm T0
theorem PreB.zero {s : Nat} {T0 : List (Idt × Nat)} (h : T0.Pairwise fun x y => x.2 < y.2) : PreB s T0 [] T0 := ⟨by simp, h, by simp, by simp⟩
theorem PreB.step {s : Nat} {T0 : List (Idt × Nat)} {cs : List (List (Idt × Nat))} {X Rest R : List (Idt × Nat)} (h : PreB s T0 cs (X ++ Rest)) (hl : X.length = s) (hR : SL Idt.idx R) (hp : R.Perm X) : PreB s T0 (cs ++ [R]) Rest := by
  obtain ⟨r1, r2, r3⟩ := List.pairwise_append.1 h.rise
  obtain ⟨t1, t2, t3⟩ := List.pairwise_append.1 h.tags
  refine ⟨fun c hc => ?_, r2, ?_, ?_⟩
  · rcases List.mem_append.1 hc with g | g
    · exact h.each c g
    · simp at g; subst g; exact ⟨by rw [hp.length_eq, hl], hR⟩
  · rw [List.append_assoc, List.pairwise_append]
    refine ⟨t1, ?_, fun c hc r hr => ?_⟩
    · rw [List.singleton_append, List.pairwise_cons]
      refine ⟨fun z hz => ?_, by simp⟩
      simp at hz; subst hz
      exact fun u hu v hv => r3 u (hp.mem_iff.1 hu) v hv
    · have ht := t3 c hc (X ++ Rest) (by simp)
      simp at hr
      rcases hr with rfl | rfl
      · exact ht.right fun x hx => List.mem_append_left _ (hp.mem_iff.1 hx)
      · exact ht.right fun x hx => List.mem_append_right _ hx
  · refine List.Perm.trans ?_ h.perm
    rw [List.flatten_append, List.append_assoc, List.perm_append_left_iff]
    simpa using hp.append_right Rest
theorem PreB.chk {s : Nat} {T0 : List (Idt × Nat)} {cs : List (List (Idt × Nat))} {Rest R : List (Idt × Nat)} (h : PreB s T0 cs Rest) (hl : Rest.length < s) (hR : SL Idt.idx R) (hp : R.Perm Rest) : Chk Idt.idx s cs R ∧ (cs.flatten ++ R).Perm T0 := by
  obtain ⟨t1, t2, t3⟩ := List.pairwise_append.1 h.tags
  refine ⟨⟨h.each, hR, by rw [hp.length_eq]; exact hl, ?_⟩, List.Perm.trans ((List.perm_append_left_iff _).2 hp) h.perm⟩
  rw [List.pairwise_append]
  refine ⟨t1, by simp, fun c hc r hr => ?_⟩
  simp at hr; subst hr
  exact (t3 c hc Rest (by simp)).right fun x hx => hp.mem_iff.1 hx
theorem flat_mul {s : Nat} {cs : List (List (Idt × Nat))} (h : ∀ c ∈ cs, c.length = s ∧ SL Idt.idx c) : cs.flatten.length = cs.length * s := flat_len fun c hc => (h c hc).1
end Go.Proofs.YtglkgmijhdkhpaaGreatDoor
