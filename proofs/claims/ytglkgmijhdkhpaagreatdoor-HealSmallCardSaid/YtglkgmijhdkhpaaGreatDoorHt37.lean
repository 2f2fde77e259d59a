/-
  Merged: Ref24V, Ref24G.
-/
import Derived.Test.YtglkgmijhdkhpaaGreatDoorHt36
import Derived.Test.YtglkgmijhdkhpaaGreatDoorHt33
import Derived.Test.YtglkgmijhdkhpaaGreatDoorHt29
import Derived.Test.YtglkgmijhdkhpaaGreatDoorHt11
import Derived.Test.YtglkgmijhdkhpaaGreatDoorHt4
/-
  limpetref24's Wants: contract.
-/
set_option linter.unusedVariables false
set_option linter.unusedSimpArgs false
namespace Go.Proofs.YtglkgmijhdkhpaaGreatDoor
open Go.RowKit

set_option maxRecDepth 100000 in
set_option maxHeartbeats 2000000 in
theorem ref24Wants (l : List Idt) (v : Value) (most : Int) (w : World) (h : Sl 3 idRow w.heap.size w v l) (hn : l.length ≤ 100000) :
    Calls Tryz.prog 13 #[v, .int .i64 most] w fun e w' => ∃ A c, e = .returned (.slice A (WantsV l most).length c) ∧ Sl 3 idRow w'.heap.size w' (.slice A (WantsV l most).length c) (WantsV l most) ∧ Below w.heap.size w w' := by
  have C1 := Lib.hid (ref24Wants0 l v w h hn)
  have hwl := wants_len l
  obtain ⟨A, c, rfl, -⟩ := id h
  obtain ⟨L, hL⟩ : ∃ L, wantsV l = L := ⟨_, rfl⟩
  have HLW := Lib.hid hL
  rw [hL] at C1 hwl
  have hll : L.length ≤ 100000 := by omega
  clear h hL
  have HC : Hid (∀ (w2 : World) (A2 : Option Addr) (c2 m : Nat), Own 3 idRow 42 w.heap.size w2 (.slice A2 L.length c2) L → m ≤ L.length → (m ≤ c2 ∧ c2 ≤ 9223372036854775807) ∧ Sl 3 idRow w2.heap.size w2 (.slice A2 m c2) (L.take m)) := fun w2 A2 c2 m ho hm => by
    have hs := ho.sl idRow_length
    obtain ⟨A', c', g1, g2, g3, -⟩ := id hs
    simp only [Value.slice.injEq] at g1
    unfold maxLen at g3
    exact ⟨by omega, hs.take_ hm⟩
  have HE : Hid (∀ m : Nat, (min ((L.length : Int)) (max most 0)).toNat = m → WantsV l most = L.take m) := fun m hm => by unfold WantsV; rw [HLW.out, hm]
  by_cases h0 : most ≤ 0
  · by_cases hm : most < 0
    · have HM := Lib.hid (HE.out 0 (by omega))
      by_cases hz : L.length = 0
      · have hz' : (L.length : Int) ≤ 0 := by omega
        have HZ := Lib.hid hz
        go_enter Tryz.func13, Tryz.ntmps13
        go_wp2_with ((go_at_call 39; (with_reducible refine C1.out.mono ?_); rintro e w2 ⟨A2, c2, rfl, ho2, hb2⟩; have HO2 := Lib.hid ho2; have HB2 := Lib.hid hb2; have HS2 := Lib.hid (HC.out w2 A2 c2 (0) ho2 (by omega)); have q1 := HS2.out.1.1; have q2 := HS2.out.1.2; have q3 : ((0 : Nat) : Int) ≤ (c2 : Int) := (by omega); have q4 : (0 : Int) ≤ (c2 : Int) := (by omega); clear ho2 hb2))
        go_ret
        have HLL := congrArg List.length HM.out
        rw [List.length_take, Nat.min_eq_left (by omega)] at HLL
        exact ⟨A2, c2, (by rw [HLL]; rfl), by rw [HLL, HM.out]; exact HS2.out.2, HB2.out⟩
      · have hz' : (0 : Int) < (L.length : Int) := by omega
        go_enter Tryz.func13, Tryz.ntmps13
        go_wp2_with ((go_at_call 39; (with_reducible refine C1.out.mono ?_); rintro e w2 ⟨A2, c2, rfl, ho2, hb2⟩; have HO2 := Lib.hid ho2; have HB2 := Lib.hid hb2; have HS2 := Lib.hid (HC.out w2 A2 c2 (0) ho2 (by omega)); have q1 := HS2.out.1.1; have q2 := HS2.out.1.2; have q3 : ((0 : Nat) : Int) ≤ (c2 : Int) := (by omega); have q4 : (0 : Int) ≤ (c2 : Int) := (by omega); clear ho2 hb2))
        go_ret
        have HLL := congrArg List.length HM.out
        rw [List.length_take, Nat.min_eq_left (by omega)] at HLL
        exact ⟨A2, c2, (by rw [HLL]; rfl), by rw [HLL, HM.out]; exact HS2.out.2, HB2.out⟩
    · obtain rfl : most = 0 := by omega
      have HM := Lib.hid (HE.out 0 (by omega))
      by_cases hz : L.length = 0
      · have hz' : (L.length : Int) ≤ 0 := by omega
        have HZ := Lib.hid hz
        go_enter Tryz.func13, Tryz.ntmps13
        go_wp2_with ((go_at_call 39; (with_reducible refine C1.out.mono ?_); rintro e w2 ⟨A2, c2, rfl, ho2, hb2⟩; have HO2 := Lib.hid ho2; have HB2 := Lib.hid hb2; have HS2 := Lib.hid (HC.out w2 A2 c2 (0) ho2 (by omega)); have q1 := HS2.out.1.1; have q2 := HS2.out.1.2; have q3 : ((0 : Nat) : Int) ≤ (c2 : Int) := (by omega); have q4 : (0 : Int) ≤ (c2 : Int) := (by omega); clear ho2 hb2))
        go_ret
        have HLL := congrArg List.length HM.out
        rw [List.length_take, Nat.min_eq_left (by omega)] at HLL
        exact ⟨A2, c2, (by rw [HLL]; rfl), by rw [HLL, HM.out]; exact HS2.out.2, HB2.out⟩
      · have hz' : (0 : Int) < (L.length : Int) := by omega
        go_enter Tryz.func13, Tryz.ntmps13
        go_wp2_with ((go_at_call 39; (with_reducible refine C1.out.mono ?_); rintro e w2 ⟨A2, c2, rfl, ho2, hb2⟩; have HO2 := Lib.hid ho2; have HB2 := Lib.hid hb2; have HS2 := Lib.hid (HC.out w2 A2 c2 (0) ho2 (by omega)); have q1 := HS2.out.1.1; have q2 := HS2.out.1.2; have q3 : ((0 : Nat) : Int) ≤ (c2 : Int) := (by omega); have q4 : (0 : Int) ≤ (c2 : Int) := (by omega); clear ho2 hb2))
        go_ret
        have HLL := congrArg List.length HM.out
        rw [List.length_take, Nat.min_eq_left (by omega)] at HLL
        exact ⟨A2, c2, (by rw [HLL]; rfl), by rw [HLL, HM.out]; exact HS2.out.2, HB2.out⟩
  · by_cases h1 : most < (L.length : Int)
    · obtain ⟨mm, rfl⟩ : ∃ mm : Nat, most = (mm : Int) := ⟨most.toNat, by omega⟩
      have HM := Lib.hid (HE.out mm (by omega))
      have d0 : (0 : Int) < (mm : Int) := by omega
      have d1 : mm < L.length := by omega
      go_enter Tryz.func13, Tryz.ntmps13
      go_wp2_with ((go_at_call 39; (with_reducible refine C1.out.mono ?_); rintro e w2 ⟨A2, c2, rfl, ho2, hb2⟩; have HO2 := Lib.hid ho2; have HB2 := Lib.hid hb2; have HS2 := Lib.hid (HC.out w2 A2 c2 (mm) ho2 (by omega)); have q1 := HS2.out.1.1; have q2 := HS2.out.1.2; have q3 : ((mm : Nat) : Int) ≤ (c2 : Int) := (by omega); have q4 : (0 : Int) ≤ (c2 : Int) := (by omega); clear ho2 hb2))
      go_ret
      have HLL := congrArg List.length HM.out
      rw [List.length_take, Nat.min_eq_left (by omega)] at HLL
      exact ⟨A2, c2, (by rw [HLL]; rfl), by rw [HLL, HM.out]; exact HS2.out.2, HB2.out⟩
    · by_cases h2 : (L.length : Int) < most
      · have HM := Lib.hid (HE.out L.length (by omega))
        have d0 : (0 : Int) < most := by omega
        go_enter Tryz.func13, Tryz.ntmps13
        go_wp2_with ((go_at_call 39; (with_reducible refine C1.out.mono ?_); rintro e w2 ⟨A2, c2, rfl, ho2, hb2⟩; have HO2 := Lib.hid ho2; have HB2 := Lib.hid hb2; have HS2 := Lib.hid (HC.out w2 A2 c2 (L.length) ho2 (by omega)); have q1 := HS2.out.1.1; have q2 := HS2.out.1.2; have q3 : ((L.length : Nat) : Int) ≤ (c2 : Int) := (by omega); have q4 : (0 : Int) ≤ (c2 : Int) := (by omega); clear ho2 hb2))
        go_ret
        have HLL := congrArg List.length HM.out
        rw [List.length_take, Nat.min_eq_left (by omega)] at HLL
        exact ⟨A2, c2, (by rw [HLL]; rfl), by rw [HLL, HM.out]; exact HS2.out.2, HB2.out⟩
      · obtain rfl : most = (L.length : Int) := by omega
        have HM := Lib.hid (HE.out L.length (by omega))
        have d0 : (0 : Int) < (L.length : Int) := by omega
        go_enter Tryz.func13, Tryz.ntmps13
        go_wp2_with ((go_at_call 39; (with_reducible refine C1.out.mono ?_); rintro e w2 ⟨A2, c2, rfl, ho2, hb2⟩; have HO2 := Lib.hid ho2; have HB2 := Lib.hid hb2; have HS2 := Lib.hid (HC.out w2 A2 c2 (L.length) ho2 (by omega)); have q1 := HS2.out.1.1; have q2 := HS2.out.1.2; have q3 : ((L.length : Nat) : Int) ≤ (c2 : Int) := (by omega); have q4 : (0 : Int) ≤ (c2 : Int) := (by omega); clear ho2 hb2))
        go_ret
        have HLL := congrArg List.length HM.out
        rw [List.length_take, Nat.min_eq_left (by omega)] at HLL
        exact ⟨A2, c2, (by rw [HLL]; rfl), by rw [HLL, HM.out]; exact HS2.out.2, HB2.out⟩
end Go.Proofs.YtglkgmijhdkhpaaGreatDoor
/-
  limpetref24's Give, Take: contracts.
-/
set_option linter.unusedVariables false
set_option linter.unusedSimpArgs false
namespace Go.Proofs.YtglkgmijhdkhpaaGreatDoor
open Go.RowKit

theorem noP_none {α : Type} {p : α → Bool} {l : List α} (h : NoP p l l.length) : l.find? p = none := by
  rcases fnd_no h with ⟨-, h⟩ | ⟨k, x, h, -⟩
  · exact h
  · omega
theorem noP_some {α : Type} {p : α → Bool} {l : List α} {k : Nat} {x : α} (h : NoP p l k) (hx : l[k]? = some x) (hp : p x = true) : l.find? p = some x := by
  rcases fnd_yes h hx hp with ⟨h, -⟩ | ⟨k', x', h1, h2, -, h3, -⟩
  · omega
  · have : k' = k := by omega
    subst this
    rw [hx] at h2
    simp only [Option.some.injEq] at h2
    rw [h3, h2]
/-- The document's records: rows and bodies of the call's own. -/
structure RefRs (B : Nat) (w : World) (v : Value) (ls m : List Rec) : Prop where
  key : m.map nrmR = ls.map nrmR
  own : Own 7 recRow 76 B w v m
  bod : ∀ x ∈ m, Own 1 u8Row 5 B w x.e.bv x.e.bd
theorem RefRs.nil_ (B : Nat) (w : World) : RefRs B w (.slice none 0 0) [] [] := ⟨rfl, Own.nil_ _ _ _ _ _, fun x hx => (by cases hx)⟩
theorem RefRs.len {B : Nat} {w : World} {v : Value} {ls m : List Rec} (h : RefRs B w v ls m) : m.length = ls.length := by simpa using congrArg List.length h.key
theorem RefRs.later {B : Nat} {w w' : World} {v : Value} {ls m : List Rec} (h : RefRs B w v ls m) (hb : Below w.heap.size w w') : RefRs B w' v ls m :=
  ⟨h.key, h.own.later hb, fun x hx => (h.bod x hx).later hb⟩
def RefGPost (ls : List Rec) (w : World) (e : Ending) (w' : World) : Prop := ∃ A c m, e = .returned (.slice A m.length c) ∧ RefRs w.heap.size w' (.slice A m.length c) ls m ∧ Below w.heap.size w w'

set_option maxRecDepth 100000 in
set_option maxHeartbeats 8000000 in
theorem ref24Give (l : List Rec) (want : List Idt) (vl vw : Value) (most : Int) (w : World) (hl : Sl 7 recRow w.heap.size w vl l) (hw : Sl 3 idRow w.heap.size w vw want) (hin : ∀ r ∈ l, EntIn w.heap.size w r.e ∧ r.e.bd.length ≤ 100000) (hn : l.length ≤ 100000 ∧ want.length ≤ 100000) :
    Calls Tryz.prog 15 #[vl, vw, .int .i64 most] w (RefGPost (giveV l want most) w) := by
  obtain ⟨Al, cl, rfl, -, -, -, hAl⟩ := hl
  obtain ⟨Aw, cw, rfl, -, -, -, hAw⟩ := hw
  have HAL := Lib.hid hAl
  have HAW := Lib.hid hAw
  have HIN := Lib.hid hin
  have hln : l.length ≤ 100000 := hn.1
  have hwn : want.length ≤ 100000 := hn.2
  clear hAl hAw hin hn
  go_enter Tryz.func15, Tryz.ntmps15
  go_wp2_with fail
  go_loopw [7, 8, 9] (fun o i _ wr => ∃ (k : Nat) (A : Option Addr) (c : Nat) (m : List Rec), k ≤ want.length ∧ i = .int .i64 (k : Int) ∧ o = .slice A m.length c ∧ RefRs w.heap.size wr (.slice A m.length c) (giveV l (want.take k) most) m ∧ Below w.heap.size w wr) (fun _ i _ _ => want.length - (kOf i).toNat)
  case atStart => exact ⟨0, none, 0, [], by omega, rfl, rfl, RefRs.nil_ _ _, Below.refl _ _⟩
  case round =>
    obtain ⟨k, A, c, m, hk, rfl, rfl, hrs, hB⟩ := hrel
    have HR := Lib.hid hrs
    have HB := Lib.hid hB
    have hzr := hB.size
    have hml : m.length ≤ k := by have h1 := hrs.len; have h2 := give_len l (want.take k) most; rw [List.length_take] at h2; omega
    have i0 : (0 : Int) ≤ (k : Int) := by omega
    clear hrs hB
    by_cases hlt : k < want.length
    · have i1 : (k : Int) < (want.length : Int) := by omega
      have d0 : decide ((k : Int) < (want.length : Int)) = true := decide_eq_true i1
      have d0n : decide (k < want.length) = true := decide_eq_true hlt
      by_cases hfull : (m.length : Int) < most
      case neg =>
        have d1 : decide ((m.length : Int) < most) = false := decide_eq_false hfull
        have HF := Lib.hid (give_full (l := l) (want := want) (most := most) (k := k) (by have := HR.out.len; omega))
        clear hfull
        go_wp2_with fail
        go_ret
        exact ⟨A, c, m, rfl, by rw [HF.out]; exact HR.out, HB.out⟩
      have d1 : decide ((m.length : Int) < most) = true := decide_eq_true hfull
      have HFU := Lib.hid hfull
      obtain ⟨bw, ow, rfl, hbw, hcw⟩ := HAW.out (by intro h; subst h; simp at hlt)
      obtain ⟨p, hp⟩ : ∃ p, want[k]? = some p := ⟨_, List.getElem?_eq_getElem hlt⟩
      have HCP : Hid (∀ V, Below w.heap.size w V → V.cell? ⟨bw, ow + k * 3, none⟩ = some (.int .i64 p.idx) ∧ V.cell? ⟨bw, ow + k * 3 + 1, none⟩ = some (.int .i64 p.trm) ∧ V.cell? ⟨bw, ow + k * 3 + 2, none⟩ = some (.int .i64 p.knd)) := fun V q => ⟨(q.cell (p := ⟨bw, ow + k * 3 + 0, none⟩) hbw).trans (hcw k p hp 0 _ rfl), (q.cell (p := ⟨bw, ow + k * 3 + 1, none⟩) hbw).trans (hcw k p hp 1 _ rfl), (q.cell (p := ⟨bw, ow + k * 3 + 2, none⟩) hbw).trans (hcw k p hp 2 _ rfl)⟩
      have HGT := Lib.hid (give_take (l := l) (most := most) hp)
      have hlm : ((giveV l (want.take k) most).length : Int) < most := by have := HR.out.len; omega
      have HLM := Lib.hid hlm
      clear hcw hp hlm hfull
      go_wp2_with fail
      obtain ⟨U, hU⟩ : ∃ z, z = wr := ⟨_, rfl⟩
      rw [← hU] at HR HB hzr
      rw [← hU]
      clear hU
      go_loopw [7, 9] (fun o i wr => ∃ j : Nat, j ≤ l.length ∧ i = .int .i64 (j : Int) ∧ o = .slice A m.length c ∧ NoP (fitR p) l j ∧ Below U.heap.size U wr) (fun _ i _ => l.length - (kOf i).toNat)
      case atStart => exact ⟨0, by omega, rfl, rfl, noP_zero, Below.refl _ _⟩
      case round =>
        obtain ⟨j, hj, rfl, rfl, hno, hb⟩ := hrel
        have HNO := Lib.hid hno
        have HBJ := Lib.hid hb
        have HBV := Lib.hid (below_call HB.out hb)
        have j0 : (0 : Int) ≤ (j : Int) := by omega
        clear hno hb
        by_cases hjl : j < l.length
        · have j1 : (j : Int) < (l.length : Int) := by omega
          have e0 : decide ((j : Int) < (l.length : Int)) = true := decide_eq_true j1
          have e0n : decide (j < l.length) = true := decide_eq_true hjl
          obtain ⟨b, off, rfl, hbb, hcell⟩ := HAL.out (by intro h; subst h; simp at hjl)
          obtain ⟨x, hx⟩ : ∃ x, l[j]? = some x := ⟨_, List.getElem?_eq_getElem hjl⟩
          have HCX : Hid (∀ V, Below w.heap.size w V → ∀ (i : Nat) (u : Value), (recRow x)[i]? = some u → V.cell? ⟨b, off + j * 7 + i, none⟩ = some u) := fun V q i u hu => (q.cell (p := ⟨b, off + j * 7 + i, none⟩) hbb).trans (hcell j x hx i u hu)
          have HXI := Lib.hid (HIN.out x (List.mem_of_getElem? hx))
          have HX := Lib.hid hx
          have HCL : Hid (∀ z : Ext wr, Below w.heap.size w z.wd) := fun z => below_call HBV.out z.low
          have kx0 : ∀ z : Ext wr, z.wd.cell? ⟨b, off + j * 7, none⟩ = some (.int .i64 x.e.idx) := fun z => HCX.out z.wd (HCL.out z) 0 _ rfl
          have kx1 : ∀ z : Ext wr, z.wd.cell? ⟨b, off + j * 7 + 1, none⟩ = some (.int .i64 x.e.trm) := fun z => HCX.out z.wd (HCL.out z) 1 _ rfl
          have kx2 : ∀ z : Ext wr, z.wd.cell? ⟨b, off + j * 7 + 2, none⟩ = some (.int .i64 x.e.knd) := fun z => HCX.out z.wd (HCL.out z) 2 _ rfl
          have kx3 : ∀ z : Ext wr, z.wd.cell? ⟨b, off + j * 7 + 3, none⟩ = some (.slice x.e.ba x.e.bd.length x.e.bc) := fun z => HCX.out z.wd (HCL.out z) 3 _ rfl
          have kx4 : ∀ z : Ext wr, z.wd.cell? ⟨b, off + j * 7 + 4, none⟩ = some (.int .i64 x.a.idx) := fun z => HCX.out z.wd (HCL.out z) 4 _ rfl
          have kx5 : ∀ z : Ext wr, z.wd.cell? ⟨b, off + j * 7 + 5, none⟩ = some (.int .i64 x.a.trm) := fun z => HCX.out z.wd (HCL.out z) 5 _ rfl
          have kx6 : ∀ z : Ext wr, z.wd.cell? ⟨b, off + j * 7 + 6, none⟩ = some (.int .i64 x.a.knd) := fun z => HCX.out z.wd (HCL.out z) 6 _ rfl
          have CO : Hid (∀ z : Ext wr, Calls Tryz.prog 42 #[.agg #[.int .i64 x.e.idx, .int .i64 x.e.trm, .int .i64 x.e.knd, .slice x.e.ba x.e.bd.length x.e.bc]] z.wd fun e w' => e = .returned (.agg #[.int .i64 x.e.idx, .int .i64 x.e.trm, .int .i64 x.e.knd]) ∧ Below z.wd.heap.size z.wd w') := fun z => refOf x.e z.wd
          have CG : Hid (∀ z : Ext wr, Calls Tryz.prog 41 #[.agg #[.int .i64 x.e.idx, .int .i64 x.e.trm, .int .i64 x.e.knd, .slice x.e.ba x.e.bd.length x.e.bc, .int .i64 x.a.idx, .int .i64 x.a.trm, .int .i64 x.a.knd]] z.wd fun e w' => e = .returned (.bool (goodR x)) ∧ Below z.wd.heap.size z.wd w') := fun z => ref24Good x z.wd (HXI.out.1.later (HCL.out z))
          clear hcell hx
          by_cases hg : goodR x = true
          case neg =>
            have hgf : goodR x = false := by simpa using hg
            have HNX := Lib.hid (noP_step (p := fitR p) HNO.out HX.out (by unfold fitR; rw [hgf]; rfl))
            rw [hgf] at CG
            clear hg hgf
            go_upto_region 8 with fail
            refine wp_region_ext (by kernel_rfl) (by kernel_rfl) ?_
            repeat (go_big_quiet_step ((rename_i x5; have h5 := x5.low; first
              | (go_at_call 41; exact ext_of x5 (CG.out x5))
              | (go_at_call 42; exact ext_of x5 (CO.out x5)))))
            refine wpQuiet_nil ?_
            intro _ hw'
            obtain ⟨x9, hw''⟩ := hw'
            subst hw''
            go_wp2_with fail
            go_roundw
            case rel => exact ⟨j + 1, by omega, by go_num, rfl, HNX.out, below_call HBJ.out x9.low⟩
            case measure => first | (simp [kOf]; done) | (simp [kOf]; omega)
          rw [hg] at CG
          by_cases he : eqI (ofE x.e) p = true
          · have HPX := Lib.hid (eqI_iff.1 he)
            have HFX := Lib.hid (noP_some HNO.out HX.out (show fitR p x = true by unfold fitR; rw [hg, he]; rfl))
            have HGN := Lib.hid (show giveV l (want.take (k + 1)) most = giveV l (want.take k) most ++ [x] by rw [HGT.out, giveS_some HLM.out HFX.out])
            have kp0 : ∀ z : Ext wr, z.wd.cell? ⟨bw, ow + k * 3, none⟩ = some (.int .i64 x.e.idx) := fun z => (HCP.out z.wd (HCL.out z)).1.trans (by rw [← HPX.out]; rfl)
            have kp1 : ∀ z : Ext wr, z.wd.cell? ⟨bw, ow + k * 3 + 1, none⟩ = some (.int .i64 x.e.trm) := fun z => (HCP.out z.wd (HCL.out z)).2.1.trans (by rw [← HPX.out]; rfl)
            have kp2 : ∀ z : Ext wr, z.wd.cell? ⟨bw, ow + k * 3 + 2, none⟩ = some (.int .i64 x.e.knd) := fun z => (HCP.out z.wd (HCL.out z)).2.2.trans (by rw [← HPX.out]; rfl)
            clear hg he
            go_upto_region 8 with fail
            refine wp_region_ext (by kernel_rfl) (by kernel_rfl) ?_
            repeat (go_big_quiet_step ((rename_i x5; have h5 := x5.low; first
              | (go_at_call 41; exact ext_of x5 (CG.out x5))
              | (go_at_call 42; exact ext_of x5 (CO.out x5)))))
            refine wpQuiet_nil ?_
            intro _ hw'
            obtain ⟨x9, hw''⟩ := hw'
            subst hw''
            obtain ⟨W8, hW8⟩ : ∃ z, z = x9.wd := ⟨_, rfl⟩
            have HB8 := Lib.hid (show Below wr.heap.size wr W8 by rw [hW8]; exact x9.low)
            rw [← hW8]
            clear hW8 kp0 kp1 kp2 kx0 kx1 kx2 kx3 kx4 kx5 kx6 CO CG
            have HBW8 := Lib.hid (below_call HBV.out HB8.out)
            have HUW8 := Lib.hid (below_call HBJ.out HB8.out)
            have f0 : W8.cell? ⟨b, off + j * 7, none⟩ = some (.int .i64 x.e.idx) := HCX.out W8 HBW8.out 0 _ rfl
            have f1 : W8.cell? ⟨b, off + j * 7 + 1, none⟩ = some (.int .i64 x.e.trm) := HCX.out W8 HBW8.out 1 _ rfl
            have f2 : W8.cell? ⟨b, off + j * 7 + 2, none⟩ = some (.int .i64 x.e.knd) := HCX.out W8 HBW8.out 2 _ rfl
            have f3 : W8.cell? ⟨b, off + j * 7 + 3, none⟩ = some (.slice x.e.ba x.e.bd.length x.e.bc) := HCX.out W8 HBW8.out 3 _ rfl
            have f4 : W8.cell? ⟨b, off + j * 7 + 4, none⟩ = some (.int .i64 x.a.idx) := HCX.out W8 HBW8.out 4 _ rfl
            have f5 : W8.cell? ⟨b, off + j * 7 + 5, none⟩ = some (.int .i64 x.a.trm) := HCX.out W8 HBW8.out 5 _ rfl
            have f6 : W8.cell? ⟨b, off + j * 7 + 6, none⟩ = some (.int .i64 x.a.knd) := HCX.out W8 HBW8.out 6 _ rfl
            have CC := Lib.hid (ref24Copied x W8 (HXI.out.1.later HBW8.out).1 HXI.out.2)
            go_wp2_with (first
              | (go_at_call 43; (with_reducible refine CC.out.mono ?_); rintro e w9 ⟨A2, c2, rfl, ho9, hb9⟩; have HO9 := Lib.hid ho9; have HB9 := Lib.hid hb9; have HR9 := Lib.hid (HR.out.later (below_call HUW8.out hb9)); have hz9 : w.heap.size ≤ w9.heap.size := (below_call HBW8.out hb9).size; clear ho9 hb9)
              | (at_builtin; refine wpList_append_keepH1 _ rfl (.tmp 46) (.tmp 52) 33 rfl w.heap.size 76 _ 7 72 Tryz.underlying33 rrecInfo rfl (Nat.succ_pos 6) recRow recRow_length recRow_one m _ rfl HR9.out.own.h (⟨⟨x.e.idx, x.e.trm, x.e.knd, A2, c2, x.e.bd⟩, x.a⟩ : Rec) _ rfl 76 _ rfl rfl (by omega) (by omega) hz9 ?_; intro g7 c7 w7 p1 p2 p3 p4 p5 p6 p7; have HP1 := Lib.hid p1; have HP3 := Lib.hid p3; have HP4 := Lib.hid p4; clear p1 p2 p3 p4 p5 p6 p7))
            go_roundw
            case rel =>
              have hsz8 := HUW8.out.size
              have hbase : w.heap.size ≤ W8.heap.size := HBW8.out.size
              have hO9 : Own 1 u8Row 5 w.heap.size w9 (.slice A2 x.e.bd.length c2) x.e.bd := HO9.out.less hbase
              have hkeep : ∀ (v : Value) (bd : List Int), Own 1 u8Row 5 w.heap.size w9 v bd → Own 1 u8Row 5 w.heap.size w7 v bd := fun v bd h => h.stay fun q hq => HP4.out q (h.block hq).2 (fun he => own_apart h HR9.out.own (by decide) hq (blkH_own he.symm))
              have hll : (m ++ [(⟨⟨x.e.idx, x.e.trm, x.e.knd, A2, c2, x.e.bd⟩, x.a⟩ : Rec)]).length = m.length + 1 := by simp
              refine ⟨k + 1, some ⟨g7, 0, none⟩, c7, m ++ [(⟨⟨x.e.idx, x.e.trm, x.e.knd, A2, c2, x.e.bd⟩, x.a⟩ : Rec)], by omega, by go_num, by rw [hll], ?_, (below_call HBW8.out HB9.out).trans HP3.out⟩
              rw [hll]
              refine ⟨by rw [List.map_append, HR9.out.key, HGN.out, List.map_append]; rfl, HP1.out, fun y hy => ?_⟩
              rcases List.mem_append.1 hy with hy | hy
              · exact hkeep _ _ (HR9.out.bod y hy)
              · rw [List.mem_singleton.1 hy]; exact hkeep _ _ hO9
            case measure => first | (simp [kOf]; done) | (simp [kOf]; omega)
          · have hef : eqI (ofE x.e) p = false := by simpa using he
            have HNX := Lib.hid (noP_step (p := fitR p) HNO.out HX.out (by unfold fitR; rw [hef]; simp))
            have kp0 : ∀ z : Ext wr, z.wd.cell? ⟨bw, ow + k * 3, none⟩ = some (.int .i64 p.idx) := fun z => (HCP.out z.wd (HCL.out z)).1
            have kp1 : ∀ z : Ext wr, z.wd.cell? ⟨bw, ow + k * 3 + 1, none⟩ = some (.int .i64 p.trm) := fun z => (HCP.out z.wd (HCL.out z)).2.1
            have kp2 : ∀ z : Ext wr, z.wd.cell? ⟨bw, ow + k * 3 + 2, none⟩ = some (.int .i64 p.knd) := fun z => (HCP.out z.wd (HCL.out z)).2.2
            have hpt : (decide (x.e.idx = p.idx) && decide (x.e.trm = p.trm) && decide (x.e.knd = p.knd)) = false := hef
            by_cases q1 : x.e.idx = p.idx
            · have e1 : (x.e.idx == p.idx) = true := by simpa using q1
              by_cases q2 : x.e.trm = p.trm
              · have e2 : (x.e.trm == p.trm) = true := by simpa using q2
                have e3 : (x.e.knd == p.knd) = false := by rw [decide_eq_true q1, decide_eq_true q2] at hpt; simpa using hpt
                clear hg he hef hpt q1 q2
                go_upto_region 8 with fail
                refine wp_region_ext (by kernel_rfl) (by kernel_rfl) ?_
                repeat (go_big_quiet_step ((rename_i x5; have h5 := x5.low; first
                  | (go_at_call 41; exact ext_of x5 (CG.out x5))
                  | (go_at_call 42; exact ext_of x5 (CO.out x5)))))
                refine wpQuiet_nil ?_
                intro _ hw'
                obtain ⟨x9, hw''⟩ := hw'
                subst hw''
                go_wp2_with fail
                go_roundw
                case rel => exact ⟨j + 1, by omega, by go_num, rfl, HNX.out, below_call HBJ.out x9.low⟩
                case measure => first | (simp [kOf]; done) | (simp [kOf]; omega)
              · have e2 : (x.e.trm == p.trm) = false := by simpa using q2
                clear hg he hef hpt q1 q2
                go_upto_region 8 with fail
                refine wp_region_ext (by kernel_rfl) (by kernel_rfl) ?_
                repeat (go_big_quiet_step ((rename_i x5; have h5 := x5.low; first
                  | (go_at_call 41; exact ext_of x5 (CG.out x5))
                  | (go_at_call 42; exact ext_of x5 (CO.out x5)))))
                refine wpQuiet_nil ?_
                intro _ hw'
                obtain ⟨x9, hw''⟩ := hw'
                subst hw''
                go_wp2_with fail
                go_roundw
                case rel => exact ⟨j + 1, by omega, by go_num, rfl, HNX.out, below_call HBJ.out x9.low⟩
                case measure => first | (simp [kOf]; done) | (simp [kOf]; omega)
            · have e1 : (x.e.idx == p.idx) = false := by simpa using q1
              clear hg he hef hpt q1
              go_upto_region 8 with fail
              refine wp_region_ext (by kernel_rfl) (by kernel_rfl) ?_
              repeat (go_big_quiet_step ((rename_i x5; have h5 := x5.low; first
                | (go_at_call 41; exact ext_of x5 (CG.out x5))
                | (go_at_call 42; exact ext_of x5 (CO.out x5)))))
              refine wpQuiet_nil ?_
              intro _ hw'
              obtain ⟨x9, hw''⟩ := hw'
              subst hw''
              go_wp2_with fail
              go_roundw
              case rel => exact ⟨j + 1, by omega, by go_num, rfl, HNX.out, below_call HBJ.out x9.low⟩
              case measure => first | (simp [kOf]; done) | (simp [kOf]; omega)
        · have e0 : decide ((j : Int) < (l.length : Int)) = false := decide_eq_false (by omega)
          have e0n : decide (j < l.length) = false := decide_eq_false hjl
          have HFN := Lib.hid (noP_none (p := fitR p) (l := l) (by have h := HNO.out; rw [show j = l.length by omega] at h; exact h))
          have HGN := Lib.hid (show giveV l (want.take (k + 1)) most = giveV l (want.take k) most by rw [HGT.out, giveS_no HLM.out HFN.out])
          go_wp2_with fail
          go_roundw
          case rel => exact ⟨k + 1, A, c, m, by omega, by go_num, rfl, by rw [HGN.out]; exact HR.out.later HBJ.out, HBV.out⟩
          case measure => first | (simp [kOf]; done) | (simp [kOf]; omega)
    · have d0 : decide ((k : Int) < (want.length : Int)) = false := decide_eq_false (by omega)
      have d0n : decide (k < want.length) = false := decide_eq_false hlt
      have hke : k = want.length := by omega
      have HRF := Lib.hid (show RefRs w.heap.size wr (.slice A m.length c) (giveV l want most) m by have h := HR.out; rw [hke, List.take_length] at h; exact h)
      clear hke
      go_wp2_with fail
      go_ret
      exact ⟨A, c, m, rfl, HRF.out, HB.out⟩

set_option maxHeartbeats 1000000 in
theorem ref24Take (rot : List Idt) (l : List Rec) (vr vl : Value) (w : World) (hr : Sl 3 idRow w.heap.size w vr rot) (hl : Sl 7 recRow w.heap.size w vl l) (hin : ∀ r ∈ l, EntIn w.heap.size w r.e ∧ r.e.bd.length ≤ 100000) (hn : l.length ≤ 100000 ∧ rot.length ≤ 100000) :
    Calls Tryz.prog 17 #[vr, vl] w (RefGPost (takeV rot l) w) := by
  have C1 := Lib.hid (ref24Wants0 rot vr w hr hn.2)
  have hwl := wants_len rot
  have HL := Lib.hid hl
  have HIN := Lib.hid hin
  obtain ⟨Ar, cr, rfl, -⟩ := id hr
  obtain ⟨Al, cl, rfl, -⟩ := id hl
  have hn1 := hn.1
  have hn2 := hn.2
  clear hr hl hin hn
  go_enter Tryz.func17, Tryz.ntmps17
  go_wp2_with (first
    | (go_at_call 39; (with_reducible refine C1.out.mono ?_); rintro e w2 ⟨A2, c2, rfl, ho2, hb2⟩; have HB2 := Lib.hid hb2; have C2 := Lib.hid (ref24Give l (wantsV rot) _ _ (rot.length : Int) w2 (HL.out.later hb2) (ho2.sl idRow_length) (fun r hr => ⟨(HIN.out r hr).1.later hb2, (HIN.out r hr).2⟩) ⟨hn1, by omega⟩); clear ho2 hb2)
    | (go_at_call 15; (with_reducible refine C2.out.mono ?_); rintro e w3 ⟨A3, c3, m3, rfl, hrs, hb3⟩; have HR3 := Lib.hid hrs; have HB3 := Lib.hid hb3; clear hrs hb3))
  go_ret
  exact ⟨A3, c3, m3, rfl, ⟨HR3.out.key, HR3.out.own.less HB2.out.size, fun x hx => (HR3.out.bod x hx).less HB2.out.size⟩, below_call HB2.out HB3.out⟩
end Go.Proofs.YtglkgmijhdkhpaaGreatDoor
