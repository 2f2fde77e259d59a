/-
  limpetlaw24.HealAll: true. Condition: errors.errorType holds its value.
-/
import Derived.Test.YtglkgmijhdkhpaaDoorHa38
import Derived.Test.YtglkgmijhdkhpaaDoorHa40
import Derived.Test.YtglkgmijhdkhpaaDoorHa41
import Derived.Test.YtglkgmijhdkhpaaDoorHa46
set_option linter.unusedVariables false
set_option linter.unusedSimpArgs false
namespace Go.Proofs.YtglkgmijhdkhpaaDoor
open Go.RowKit

theorem logV_mem : ∀ {l : List Ent} {p : Idt} {r : Rec}, r ∈ logV p l → r.e ∈ l := by
  intro l
  induction l with
  | nil => intro p r h; cases h
  | cons x l ih =>
    intro p r h
    rcases List.mem_cons.1 (show r ∈ (⟨x, p⟩ : Rec) :: logV (ofE x) l from h) with rfl | h
    · exact List.mem_cons_self ..
    · exact List.mem_cons_of_mem _ (ih h)
theorem nrm_len {m ls : List Rec} (h : m.map nrmR = ls.map nrmR) : m.length = ls.length := by simpa using congrArg List.length h
theorem took_each {b : Nat → Bool} {l : List Ent} {TK m : List Rec} (h : m.map nrmR = TK.map nrmR) (he : ∀ r ∈ TK, ∃ k : Nat, l[k]? = some r.e ∧ r.e.idx = (k : Int) + 1 ∧ b k = true) {x : Rec} (hx : x ∈ m) :
    ∃ (k : Nat) (y : Ent), l[k]? = some y ∧ y.idx = (k : Int) + 1 ∧ b k = true ∧ x.e.idx = (k : Int) + 1 ∧ x.e.trm = y.trm ∧ x.e.knd = y.knd ∧ x.e.bd = y.bd := by
  have hm : nrmR x ∈ TK.map nrmR := by rw [← h]; exact List.mem_map_of_mem hx
  obtain ⟨r, hr, hrx⟩ := List.mem_map.1 hm
  obtain ⟨k, h1, h2, h3⟩ := he r hr
  have e1 : nrmE r.e = nrmE x.e := congrArg Rec.e hrx
  exact ⟨k, r.e, h1, h2, h3, by rw [← h2]; exact (congrArg Ent.idx e1 : _).symm, (congrArg Ent.trm e1 : _).symm, (congrArg Ent.knd e1 : _).symm, (congrArg Ent.bd e1 : _).symm⟩
theorem took_key {rl : List Idt} {GV mg mt : List Rec} (h1 : mg.map nrmR = GV.map nrmR) (h2 : mt.map nrmR = (takeV rl mg).map nrmR) : mt.map nrmR = (takeV rl GV).map nrmR := by
  rw [h2, ← take_nrm, h1, take_nrm]
theorem left_key {rl : List Idt} {TK mt : List Rec} (h : mt.map nrmR = TK.map nrmR) : leftV rl mt = leftV rl TK := by
  rw [← left_nrm rl mt, h, left_nrm]
theorem goodE_small {x : Ent} (h : goodE x = true) : x.bd.length ≤ 200 ∧ H64 x.idx := by
  unfold goodE rangeE at h
  simp only [Bool.and_eq_true, decide_eq_true_eq] at h
  unfold H64
  omega

set_option maxRecDepth 100000 in
set_option maxHeartbeats 8000000 in
theorem healAll (l : List Ent) (B many : Int) (v : Value) (w : World) (h : Sl 4 entRow w.heap.size w v l) (hin : ∀ x ∈ l, EntIn w.heap.size w x ∧ x.bd.length ≤ 140737488351232) (zl : l.length ≤ 140737488351232) (hB0 : 0 ≤ B) (hB1 : B < 18446744073709551616) (hm64 : H64 many) (hG : errTypeIs w) :
    Calls Tryd.prog 4 #[v, .int .u64 B, .int .i64 many] w fun e w' => e = .returned (.bool true) ∧ Below w.heap.size w w' := by
  obtain ⟨Al, cl, rfl, -⟩ := id h
  have HL := Lib.hid h
  have HIN := Lib.hid hin
  have HG := Lib.hid hG
  have hm0 := hm64.1
  have hm1 := hm64.2
  clear h hin hG hm64
  go_enter Tryd.func4, Tryd.ntmps4
  go_upto_region 3 with (go_at_call 5; (with_reducible refine (awake24 w HG.out).mono ?_); rintro e w1 ⟨rfl, hb1⟩; have HB1 := Lib.hid hb1; clear hb1)
  by_cases hs : (60 : Int) < (l.length : Int)
  · have d0 : decide ((60 : Int) < (l.length : Int)) = true := decide_eq_true hs
    go_wp2_with fail
    go_ret
    exact ⟨rfl, HB1.out⟩
  have d0 : decide ((60 : Int) < (l.length : Int)) = false := decide_eq_false hs
  have CF : Hid (Calls Tryd.prog 14 #[.agg #[.int .i64 0, .int .i64 0, .int .i64 0], .slice Al l.length cl] w1 fun e w' => e = .returned (.int .i64 (folE zI0 l)) ∧ Below w1.heap.size w1 w') := Lib.hid (entFollows zI0 l _ w1 (HL.out.later HB1.out) (fun x hx => (HIN.out x hx).1.later HB1.out) (errType_later HG.out HB1.out))
  have hl60 : l.length ≤ 60 := by omega
  by_cases hf : folE zI0 l = 0
  case neg =>
    obtain ⟨f, hfe⟩ : ∃ f, folE zI0 l = f := ⟨_, rfl⟩
    rw [hfe] at CF hf
    have e0 : (f != 0) = true := by simpa using hf
    clear hfe hf hs
    go_wp2_with (go_at_call 14; (with_reducible refine CF.out.mono ?_); rintro e w2 ⟨rfl, hb2⟩; have HB2 := Lib.hid (below_call HB1.out hb2); clear hb2)
    go_ret
    exact ⟨rfl, HB2.out⟩
  have HLO := Lib.hid (log_of hf)
  rw [hf] at CF
  clear hf hs
  by_cases hmy : many < 1
  · have d1 : decide (many < 1) = true := decide_eq_true hmy
    go_wp2_with (go_at_call 14; (with_reducible refine CF.out.mono ?_); rintro e w2 ⟨rfl, hb2⟩; have HB2 := Lib.hid (below_call HB1.out hb2); clear hb2)
    go_ret
    exact ⟨rfl, HB2.out⟩
  have d1 : decide (many < 1) = false := decide_eq_false hmy
  have hmany : 1 ≤ many := by omega
  go_upto_region 5 with (go_at_call 14; (with_reducible refine CF.out.mono ?_); rintro e w2 ⟨rfl, hb2⟩; have HB2 := Lib.hid (below_call HB1.out hb2); clear hb2)
  clear CF d0 d1 hmy
  have CLG := Lib.hid (log24 l _ w2 (HL.out.later HB2.out) (by omega))
  go_upto_region 6 with (go_at_call 15; (with_reducible refine CLG.out.mono ?_); rintro e w3 ⟨v3, rfl, ho, hb3⟩; obtain ⟨A3, c3, hv3⟩ := ho.len; rw [logV_length] at hv3; subst hv3; have HLG3 := Lib.hid (ho.sl recRow_length); have HB3 := Lib.hid (below_call HB2.out hb3); clear ho hb3)
  clear CLG
  have CRT := Lib.hid (rotten24 l B _ w3 (HL.out.later HB3.out) hl60 hB0 hB1)
  go_upto_region 7 with (go_at_call 16; (with_reducible refine CRT.out.mono ?_); rintro e w4 ⟨v4, rfl, ho, hb4⟩; obtain ⟨A4, c4, rfl⟩ := ho.len; have HRT := Lib.hid (ho.sl idRow_length); have HB4 := Lib.hid (below_call HB3.out hb4); have HLG := Lib.hid (HLG3.out.later hb4); clear ho hb4)
  clear CRT HLG3
  obtain ⟨W, hW⟩ : ∃ z, z = w4 := ⟨_, rfl⟩
  rw [← hW] at HRT HB4 HLG
  rw [← hW]
  clear hW
  have HSL := Lib.hid (HL.out.later HB4.out)
  have HGW := Lib.hid (errType_later HG.out HB4.out)
  have HSM : Hid (∀ x ∈ l, x.bd.length ≤ 200 ∧ H64 x.idx) := fun x hx => by
    obtain ⟨k, hk⟩ := List.getElem?_of_mem hx
    exact goodE_small (HLO.out.good k x hk)
  have HEI : Hid (∀ V, Below W.heap.size W V → ∀ x ∈ l, EntIn V.heap.size V x) := fun V hV x hx => (HIN.out x hx).1.later (below_call HB4.out hV)
  have HRI : Hid (∀ V, Below W.heap.size W V → ∀ r ∈ logV zI0 l, RecIn V r) := fun V hV r hr => ⟨⟨HEI.out V hV r.e (logV_mem hr), by have := (HSM.out r.e (logV_mem hr)).1; omega⟩, (HSM.out r.e (logV_mem hr)).2⟩
  have hr0 := rotV_len (bitV B) l l.length
  have HR0 := Lib.hid (rot_begin_ (b := bitV B) HLO.out)
  obtain ⟨rl0, hrl0⟩ : ∃ z, z = rotV (bitV B) l l.length := ⟨_, rfl⟩
  rw [← hrl0] at HRT HR0 hr0
  rw [← hrl0]
  obtain ⟨m0, hm0e⟩ : ∃ z, z = rl0.length := ⟨_, rfl⟩
  have HM0 := Lib.hid hm0e
  rw [← hm0e] at HRT hr0
  rw [← hm0e]
  clear hrl0 hm0e
  go_wp2_with fail
  go_loopw [8, 9, 10, 11, 12, 13, 14, 15] (fun r t _ _ _ _ _ _ wr => ∃ (n m : Nat) (rl : List Idt) (A : Option Addr) (c : Nat), r = .slice A m c ∧ m = rl.length ∧ t = .int .i64 (n : Int) ∧ RotI (bitV B) l rl ∧ m + n ≤ 60 ∧ Sl 3 idRow wr.heap.size wr (.slice A m c) rl ∧ Below W.heap.size W wr) (fun _ t _ _ _ _ _ _ _ => 61 - (kOf t).toNat)
  case atStart => exact ⟨0, m0, rl0, A4, c4, rfl, HM0.out, rfl, HR0.out, by omega, HRT.out, Below.refl _ _⟩
  case round =>
    clear HRT HR0 hr0 HM0
    obtain ⟨n, m, rl, A, c, rfl, hml, rfl, hR, hmn, hsl, hb⟩ := hrel
    have HML := Lib.hid hml
    have HR := Lib.hid hR
    have HS := Lib.hid hsl
    have HB := Lib.hid hb
    have n0 : (0 : Int) ≤ (n : Int) := by omega
    have n1 : (n : Int) ≤ 60 := by omega
    have d0 : decide ((n : Int) ≤ 60) = true := decide_eq_true n1
    have d0n : decide (n ≤ 60) = true := decide_eq_true (by omega)
    clear hml hR hsl hb
    by_cases hm : m = 0
    · subst hm
      go_wp2_with fail
      go_ret
      exact ⟨rfl, below_call HB4.out HB.out⟩
    · have m1 : (0 : Int) < (m : Int) := by omega
      have d1 : decide ((0 : Int) < (m : Int)) = true := decide_eq_true m1
      have d1n : decide (0 < m) = true := decide_eq_true (by omega)
      have HT := Lib.hid (heal_turn HLO.out HR.out (by intro h; have := HML.out; rw [h] at this; exact hm this) hmany)
      obtain ⟨WV, hWV⟩ : ∃ z, z = WantsV rl many := ⟨_, rfl⟩
      have CW : Hid (Calls Tryd.prog 9 #[.slice A m c, .int .i64 many] wr fun e w' => ∃ (A5 : Option Addr), e = .returned (.slice A5 WV.length WV.length) ∧ Sl 3 idRow w'.heap.size w' (.slice A5 WV.length WV.length) WV ∧ Below wr.heap.size wr w') :=
        (healWants rl _ many wr HS.out (by have := HML.out; omega)).mono fun e w' ⟨v0, A5, k5, c5, he, h1, _, _, h2, h3⟩ => by subst h1; rw [← hWV] at he h2; exact ⟨A5, he, h2, h3⟩
      rw [← hWV] at HT
      clear hWV
      obtain ⟨GV, hGV⟩ : ∃ z, z = giveV (logV zI0 l) WV many := ⟨_, rfl⟩
      rw [← hGV] at HT
      have HGV := Lib.hid hGV
      clear hGV
      obtain ⟨TK, hTK⟩ : ∃ z, z = takeV rl GV := ⟨_, rfl⟩
      rw [← hTK] at HT
      have HTK := Lib.hid hTK
      clear hTK
      obtain ⟨q, hq⟩ : ∃ z, z = WV.length := ⟨_, rfl⟩
      have HQ := Lib.hid hq
      rw [← hq] at CW
      have q0 : 0 < q := by have := HT.out.some_; rw [hq]; exact List.length_pos_iff.2 this
      have q1 : (q : Int) ≤ many := by rw [hq]; exact HT.out.few
      have q2 : q ≤ m := by have h1 := HT.out.left_len; have h2 := HT.out.took_len; rw [HML.out, hq]; omega
      clear hq
      have f0 : ((q : Int) == 0) = false := by simp; omega
      have f0n : (q == 0) = false := by simp; omega
      have f1 : decide (many < (q : Int)) = false := decide_eq_false (by omega)
      go_upto_region 13 with (go_at_call 9; (with_reducible refine CW.out.mono ?_); rintro e w5 ⟨A5, rfl, hs5, hb5⟩; have HS5 := Lib.hid hs5; have HB5 := Lib.hid (below_call HB.out hb5); have HX5 := Lib.hid hb5; clear hs5 hb5)
      clear CW f0 f0n f1
      have CG : Hid (Calls Tryd.prog 8 #[.slice A3 l.length c3, .slice A5 q q, .int .i64 many] w5 fun e w' => ∃ A6 c6 m6, e = .returned (.slice A6 q c6) ∧ RecRs w5.heap.size w' (.slice A6 q c6) (giveV (logV zI0 l) WV many) m6 ∧ m6.length = q ∧ Below w5.heap.size w5 w') :=
        (healGive (logV zI0 l) WV _ _ many w5 (HLG.out.later HB5.out) HS5.out (HRI.out w5 HB5.out) (errType_later HGW.out HB5.out) ⟨by rw [logV_length]; omega, by have := HQ.out; omega⟩).mono fun e w' ⟨A6, c6, m6, he, h1, h2⟩ => by
          have hl6 : m6.length = q := by have h3 := h1.len; rw [← HGV.out] at h3; have h4 := HT.out.got_len; have h5 := HQ.out; omega
          rw [hl6] at he h1
          exact ⟨A6, c6, m6, he, h1, hl6, h2⟩
      go_upto_region 14 with (go_at_call 8; (with_reducible refine CG.out.mono ?_); rintro e w6 ⟨A6, c6, m6, rfl, hrs, hl6, hb6⟩; have HG6 := Lib.hid hrs; have HB6 := Lib.hid (below_call HB5.out hb6); have HX6 := Lib.hid (below_call HX5.out hb6); have HL6 := Lib.hid hl6; clear hrs hb6 hl6)
      clear CG
      have HK6 := Lib.hid (show m6.map nrmR = GV.map nrmR by rw [HGV.out]; exact HG6.out.key)
      have HI6 : Hid (∀ r ∈ m6, RecIn w6 r) := fun r hr => by
        have h1 := rec_in HG6.out (fun r hr => (HRI.out W (Below.refl _ _) r hr).1.1.2) (Below.refl _ _) r hr
        obtain ⟨y, hy, e1, -, -, e4, -⟩ := rec_from HG6.out.key hr
        have h2 := HRI.out W (Below.refl _ _) y hy
        exact ⟨⟨h1, by rw [← e4]; exact h2.1.2⟩, by rw [← e1]; exact h2.2⟩
      have CT : Hid (Calls Tryd.prog 7 #[.slice A m c, .slice A6 q c6] w6 fun e w' => ∃ A7 c7 m7, e = .returned (.slice A7 q c7) ∧ RecRs w6.heap.size w' (.slice A7 q c7) (takeV rl m6) m7 ∧ m7.length = q ∧ Below w6.heap.size w6 w') :=
        (healTake rl m6 _ _ w6 (HS.out.later HX6.out) (HG6.out.own.sl recRow_length) HI6.out (errType_later HGW.out HB6.out) ⟨by have := HL6.out; omega, by have := HML.out; omega⟩).mono fun e w' ⟨A7, c7, m7, he, h1, h2⟩ => by
          have hl7 : m7.length = q := by
            have h3 := nrm_len (took_key HK6.out h1.key)
            rw [← HTK.out] at h3
            have h4 := HT.out.took_len
            have h5 := HQ.out
            omega
          rw [hl7] at he h1
          exact ⟨A7, c7, m7, he, h1, hl7, h2⟩
      go_upto_region 15 with (go_at_call 7; (with_reducible refine CT.out.mono ?_); rintro e w7 ⟨A7, c7, m7, rfl, hrs, hl7, hb7⟩; have HT7 := Lib.hid hrs; have HB7 := Lib.hid (below_call HB6.out hb7); have HX7 := Lib.hid (below_call HX6.out hb7); have HL7 := Lib.hid hl7; clear hrs hb7 hl7)
      clear CT
      have HK7 := Lib.hid (show m7.map nrmR = TK.map nrmR by rw [HTK.out]; exact took_key HK6.out HT7.out.key)
      have HS7 := Lib.hid (HT7.out.own.sl recRow_length)
      have HEA : Hid (∀ x ∈ m7, ∃ (k : Nat) (y : Ent), l[k]? = some y ∧ y.idx = (k : Int) + 1 ∧ bitV B k = true ∧ x.e.idx = (k : Int) + 1 ∧ x.e.trm = y.trm ∧ x.e.knd = y.knd ∧ x.e.bd = y.bd) := fun x hx => took_each HK7.out HT.out.each hx
      have HBD : Hid (∀ x ∈ m7, Own 1 u8Row 5 w6.heap.size w7 x.e.bv x.e.bd) := fun x hx => by
        obtain ⟨i, hi⟩ := List.getElem?_of_mem hx
        exact HT7.out.bod.own i x.e (by rw [List.getElem?_map, hi]; rfl)
      have HLK := Lib.hid (left_key (rl := rl) HK7.out)
      obtain ⟨LV, hLV⟩ : ∃ z, z = leftV rl m7 := ⟨_, rfl⟩
      have HLV := Lib.hid (show LV = leftV rl TK by rw [hLV]; exact HLK.out)
      have HLE := Lib.hid hLV
      have hqm : LV.length + q = m := by have h1 := HT.out.left_len; have h2 := HT.out.took_len; rw [← HLV.out] at h1; rw [HML.out, HQ.out, ← h1, h2]
      have HRL : Hid (RotI (bitV B) l LV) := by have h1 := HT.out.rot; rw [← HLV.out] at h1; exact h1
      clear hLV
      go_wp2_with fail
      obtain ⟨Y, hY⟩ : ∃ z, z = w7 := ⟨_, rfl⟩
      rw [← hY] at HB7 HX7 HS7 HBD
      rw [← hY]
      clear hY HT7 HI6 HG6
      have HAT : Hid (∀ k : Nat, k < q → ∃ (b off : Nat), A7 = some ⟨b, off, none⟩ ∧ b < Y.heap.size ∧ ∃ x, m7[k]? = some x ∧ ∀ j u, (recRow x)[j]? = some u → Y.cell? ⟨b, off + k * 7 + j, none⟩ = some u) := fun k hk => by
        obtain ⟨b, off, c9, hv, -, -, hbb, hcell⟩ := HS7.out.cellAt (by intro h; have := HL7.out; rw [h] at this; simp at this; omega)
        simp only [Value.slice.injEq] at hv
        obtain ⟨hv1, -, -⟩ := hv
        obtain ⟨x, hx⟩ : ∃ x, m7[k]? = some x := ⟨_, List.getElem?_eq_getElem (by have := HL7.out; omega)⟩
        exact ⟨b, off, hv1, hbb, x, hx, fun j u hu => hcell k x hx j u hu⟩
      go_loopw [13, 14] (fun i _ wr => ∃ k : Nat, k ≤ q ∧ i = .int .i64 (k : Int) ∧ Below Y.heap.size Y wr) (fun i _ _ => q - (kOf i).toNat)
      case atStart => exact ⟨0, by omega, rfl, Below.refl _ _⟩
      case round =>
        obtain ⟨i, hi, rfl, hb⟩ := hrel
        have HBI := Lib.hid hb
        have i0 : (0 : Int) ≤ (i : Int) := by omega
        clear hb
        by_cases hlt : i < q
        · have i1 : (i : Int) < (q : Int) := by omega
          have g0 : decide ((i : Int) < (q : Int)) = true := decide_eq_true i1
          have g0n : decide (i < q) = true := decide_eq_true hlt
          obtain ⟨b, off, rfl, hbb, x, hx, hcell⟩ := HAT.out i hlt
          obtain ⟨k, y, hy, hyi, hbk, e1, e2, e3, e4⟩ := HEA.out x (List.mem_of_getElem? hx)
          have hkl := (List.getElem?_eq_some_iff.1 hy).1
          obtain ⟨b2, off2, c9, hv, -, -, hbb2, hcell2⟩ := HSL.out.cellAt (by intro h; subst h; simp at hy)
          simp only [Value.slice.injEq] at hv
          obtain ⟨rfl, -, rfl⟩ := hv
          have HCL : Hid (∀ z : Ext wr, Below Y.heap.size Y z.wd) := fun z => below_call HBI.out z.low
          have HCW : Hid (∀ z : Ext wr, Below W.heap.size W z.wd) := fun z => below_call HB7.out (HCL.out z)
          have cc : wr.cell? ⟨b, off + i * 7, none⟩ = some (.int .i64 ((k : Int) + 1)) := ((HBI.out.cell (p := ⟨b, off + i * 7 + 0, none⟩) hbb).trans (hcell 0 _ rfl)).trans (by rw [e1])
          have kx0 : ∀ z : Ext wr, z.wd.cell? ⟨b, off + i * 7, none⟩ = some (.int .i64 ((k : Int) + 1)) := fun z => (((HCL.out z).cell (p := ⟨b, off + i * 7 + 0, none⟩) hbb).trans (hcell 0 _ rfl)).trans (by rw [e1])
          have kx1 : ∀ z : Ext wr, z.wd.cell? ⟨b, off + i * 7 + 1, none⟩ = some (.int .i64 y.trm) := fun z => (((HCL.out z).cell (p := ⟨b, off + i * 7 + 1, none⟩) hbb).trans (hcell 1 _ rfl)).trans (by rw [e2])
          have kx2 : ∀ z : Ext wr, z.wd.cell? ⟨b, off + i * 7 + 2, none⟩ = some (.int .i64 y.knd) := fun z => (((HCL.out z).cell (p := ⟨b, off + i * 7 + 2, none⟩) hbb).trans (hcell 2 _ rfl)).trans (by rw [e3])
          have kx3 : ∀ z : Ext wr, z.wd.cell? ⟨b, off + i * 7 + 3, none⟩ = some (.slice x.e.ba y.bd.length x.e.bc) := fun z => (((HCL.out z).cell (p := ⟨b, off + i * 7 + 3, none⟩) hbb).trans (hcell 3 _ rfl)).trans (by rw [e4])
          have ky0 : ∀ z : Ext wr, z.wd.cell? ⟨b2, off2 + k * 4, none⟩ = some (.int .i64 ((k : Int) + 1)) := fun z => (((HCW.out z).cell (p := ⟨b2, off2 + k * 4 + 0, none⟩) hbb2).trans (hcell2 k y hy 0 _ rfl)).trans (by rw [hyi])
          have ky1 : ∀ z : Ext wr, z.wd.cell? ⟨b2, off2 + k * 4 + 1, none⟩ = some (.int .i64 y.trm) := fun z => ((HCW.out z).cell (p := ⟨b2, off2 + k * 4 + 1, none⟩) hbb2).trans (hcell2 k y hy 1 _ rfl)
          have ky2 : ∀ z : Ext wr, z.wd.cell? ⟨b2, off2 + k * 4 + 2, none⟩ = some (.int .i64 y.knd) := fun z => ((HCW.out z).cell (p := ⟨b2, off2 + k * 4 + 2, none⟩) hbb2).trans (hcell2 k y hy 2 _ rfl)
          have ky3 : ∀ z : Ext wr, z.wd.cell? ⟨b2, off2 + k * 4 + 3, none⟩ = some (.slice y.ba y.bd.length y.bc) := fun z => ((HCW.out z).cell (p := ⟨b2, off2 + k * 4 + 3, none⟩) hbb2).trans (hcell2 k y hy 3 _ rfl)
          have CS : Hid (∀ z : Ext wr, Calls Tryd.prog 17 #[.agg #[.int .i64 ((k : Int) + 1), .int .i64 y.trm, .int .i64 y.knd, .slice x.e.ba y.bd.length x.e.bc], .agg #[.int .i64 ((k : Int) + 1), .int .i64 y.trm, .int .i64 y.knd, .slice y.ba y.bd.length y.bc]] z.wd fun e w' => e = .returned (.bool true) ∧ Below z.wd.heap.size z.wd w') := fun z => by
            have h1 := (HBD.out x (List.mem_of_getElem? hx)).sl u8Row_length
            unfold Ent.bv at h1
            rw [e4] at h1
            exact sameEntry ⟨(k : Int) + 1, y.trm, y.knd, x.e.ba, x.e.bc, y.bd⟩ y.ba y.bc z.wd (h1.later (HCL.out z)) (HEI.out z.wd (HCW.out z) y (List.mem_of_getElem? hy)).1
          have k0 : (0 : Int) ≤ (k : Int) := by omega
          have k1 : (k : Int) < (l.length : Int) := by omega
          have k2 : (k : Int) < 60 := by omega
          have g1 : decide ((k : Int) < 0) = false := decide_eq_false (by omega)
          have g2 : decide ((l.length : Int) ≤ (k : Int)) = false := decide_eq_false (by omega)
          have g2n : decide (l.length ≤ k) = false := decide_eq_false (by omega)
          have g3 : (bits BinOp.and IntKind.u64 (B / 2 ^ (k % 64)) 1 == 0) = false := by rw [bit_zero k hB0 hB1, hbk]; rfl
          clear hcell hcell2 hx hy hyi hbk e1 e2 e3 e4 hkl
          go_upto_region 21 with fail
          clear cc
          refine wp_region_ext (by kernel_rfl) (by kernel_rfl) ?_
          repeat (go_big_quiet_step ((rename_i x5; have h5 := x5.low; first
            | (go_at_call 17; exact ext_of x5 (CS.out x5)))))
          refine wpQuiet_nil ?_
          intro _ hw'
          obtain ⟨x9, hw''⟩ := hw'
          subst hw''
          go_wp2_with fail
          go_roundw
          case rel => exact ⟨i + 1, by omega, by go_num, HCL.out x9⟩
          case measure => first | (simp [kOf]; done) | (simp [kOf]; omega)
        · have g0 : decide ((i : Int) < (q : Int)) = false := decide_eq_false (by omega)
          have g0n : decide (i < q) = false := decide_eq_false hlt
          have CL : Hid (Calls Tryd.prog 13 #[.slice A m c, .slice A7 q c7] wr fun e w' => ∃ A8 c8, e = .returned (.slice A8 LV.length c8) ∧ Sl 3 idRow w'.heap.size w' (.slice A8 LV.length c8) LV ∧ Below wr.heap.size wr w') :=
            (healLeft rl m7 _ _ wr (HS.out.later (below_call HX7.out HBI.out)) (HS7.out.later HBI.out) ⟨by have := HL7.out; omega, by have := HML.out; omega⟩).mono fun e w' ⟨v', he, h1, h2⟩ => by
              rw [← HLE.out] at h1
              obtain ⟨A8, c8, hv⟩ := h1.len
              subst hv
              exact ⟨A8, c8, he, h1.sl idRow_length, h2⟩
          obtain ⟨p, hp⟩ : ∃ z, z = LV.length := ⟨_, rfl⟩
          have HP := Lib.hid hp
          rw [← hp] at CL hqm
          clear hp
          go_upto_region 24 with (go_at_call 13; (with_reducible refine CL.out.mono ?_); rintro e w8 ⟨A8, c8, rfl, hs8, hb8⟩; have HS8 := Lib.hid hs8; have HB8 := Lib.hid (below_call HB7.out (below_call HBI.out hb8)); clear hs8 hb8)
          clear CL
          have CTH := Lib.hid (theirs24 LV l _ _ w8 HS8.out (HSL.out.later HB8.out) (fun p hp => by obtain ⟨k, x, h1, -, h2, h3⟩ := HRL.out.each p hp; exact ⟨k, x, h1, h2, h3⟩) (by omega) (by have := HP.out; omega))
          have g3 : ((p : Int) != (m : Int) - (q : Int)) = false := by simp; omega
          go_wp2_with (go_at_call 18; (with_reducible refine CTH.out.mono ?_); rintro e w9 ⟨rfl, hb9⟩; have HB9 := Lib.hid (below_call HB8.out hb9); have HS9 := Lib.hid (HS8.out.later hb9); clear hb9)
          go_roundw
          case rel => exact ⟨n + 1, p, LV, A8, c8, rfl, HP.out, by go_num, HRL.out, by omega, HS9.out, HB9.out⟩
          case measure => first | (simp [kOf]; done) | (simp [kOf]; omega)
end Go.Proofs.YtglkgmijhdkhpaaDoor
