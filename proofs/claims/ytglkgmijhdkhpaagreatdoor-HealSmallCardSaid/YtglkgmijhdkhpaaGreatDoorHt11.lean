/-
  Merged: BodFam, HealGive, HealRec.
-/
import Derived.Test.YtglkgmijhdkhpaaGreatDoorHt10
import Derived.Test.YtglkgmijhdkhpaaGreatDoorHt4
import Derived.Lib.SliceRun
import Derived.Test.YtglkgmijhdkhpaaGreatDoorHt7
import Derived.Test.YtglkgmijhdkhpaaGreatDoorHt8
/-
  slices.Clone of bytes; bodies in memory of their own.
-/
set_option linter.unusedVariables false
set_option linter.unusedSimpArgs false
namespace Go.Proofs.YtglkgmijhdkhpaaGreatDoor
open Go.RowKit

set_option maxRecDepth 100000 in
set_option maxHeartbeats 1000000 in
/-- A copy of bytes: in memory of its own. -/
theorem cloneBytes (l : List Int) (v : Value) (w : World) (h : Sl 1 u8Row w.heap.size w v l) (hn : l.length ≤ 100000) :
    Calls Tryz.prog 38 #[v] w fun e w' => ∃ A c, e = .returned (.slice A l.length c) ∧ Own 1 u8Row 5 w.heap.size w' (.slice A l.length c) l ∧ Below w.heap.size w w' := by
  obtain ⟨A, cap, rfl, hlc, hcm, hN, hA⟩ := id h
  have HH := Lib.hid h
  have q23 : ∀ (w : World) (a : Option Addr) (n c n' c' : Nat), (binOp .eql 52 (.slice a n c) (.slice none n' c')).run Tryz.prog w = .ok (.bool a.isNone) w := fun w a n c n' c' => Lib.run_eql_slice_nil w _ _ a n c n' c' Tryz.underlying52
  cases A with
  | none =>
    have hc : cap = 0 := hN rfl
    have h0 : l = [] := List.eq_nil_of_length_eq_zero (by omega)
    subst h0; subst hc
    clear h hA hN
    go_enter Tryz.func38, Tryz.ntmps38
    go_wp2_with fail
    go_ret
    exact ⟨none, 0, rfl, Own.nil_ _ _ _ _ _, Below.refl _ _⟩
  | some ad =>
    clear h hA hN hlc hcm
    go_enter Tryz.func38, Tryz.ntmps38
    go_wp2_with (at_builtin; refine wpList_append_all _ rfl (.tmp 5) (.tmp 6) 52 rfl w.heap.size 5 _ 1 1 Tryz.underlying52 u8Info rfl (Nat.succ_pos 0) u8Row u8Row_length u8Row_one [] _ rfl (Own.made 1 u8Row 5 w) l w.heap.size _ (HH.out.below (below_new _ _)) rfl (by unfold maxLen; simp; omega) (by simp; omega) (by simp) ?_; intro v' w' h1 h2 h3 h4 h5; have HO := Lib.hid h1; have HB2 := Lib.hid ((below_new w (.cells #[] 5)).trans h2); clear h2 h3 h4 h5)
    obtain ⟨A2, c2, hv⟩ := HO.out.len
    go_ret
    rw [List.nil_append] at hv
    subst hv
    exact ⟨A2, c2, rfl, by have h := HO.out; rwa [List.nil_append] at h, HB2.out⟩

/-- Bodies in memory of their own, each in another block, none in the list's. -/
structure BodFam (base : Nat) (w : World) (blk : Option Nat) (m : List Ent) : Prop where
  own : ∀ (i : Nat) (x : Ent), m[i]? = some x → Own 1 u8Row 5 base w x.bv x.bd
  far : ∀ (i j : Nat) (x y : Ent), i ≠ j → m[i]? = some x → m[j]? = some y → ∀ q, blkH x.bv = some q → blkH y.bv ≠ some q
  out : ∀ (i : Nat) (x : Ent), m[i]? = some x → ∀ q, blkH x.bv = some q → blk ≠ some q
theorem BodFam.nil_ (base : Nat) (w : World) (blk : Option Nat) : BodFam base w blk [] := ⟨fun i x h => by simp at h, fun i j x y _ h => by simp at h, fun i x h => by simp at h⟩
theorem BodFam.lt {base : Nat} {w : World} {blk : Option Nat} {m : List Ent} (h : BodFam base w blk m) {i : Nat} {x : Ent} (hx : m[i]? = some x) {q : Nat} (hq : blkH x.bv = some q) : base ≤ q ∧ q < w.heap.size := (h.own i x hx).block (blkH_own hq)
/-- What is owned, or without room, stays where its block does: a body stays owned. -/
theorem Own.stayH {α : Type} {k : Nat} {row : α → List Value} {e : TypeId} {base : Nat} {w w' : World} {v : Value} {l : List α} (h : Own k row e base w v l) (hb : ∀ x, v.ownBlock = some x → w'.heap[x]? = w.heap[x]?) : Own k row e base w' v l := h.stay hb
theorem BodFam.stay {base : Nat} {w w' : World} {blk blk' : Option Nat} {m : List Ent} (h : BodFam base w blk m) (hb : ∀ (i : Nat) (x : Ent), m[i]? = some x → ∀ q, x.bv.ownBlock = some q → w'.heap[q]? = w.heap[q]?) (ho : ∀ (i : Nat) (x : Ent), m[i]? = some x → ∀ q, blkH x.bv = some q → blk' ≠ some q) : BodFam base w' blk' m :=
  ⟨fun i x hx => (h.own i x hx).stay (hb i x hx), h.far, ho⟩
theorem BodFam.snoc {base : Nat} {w : World} {blk : Option Nat} {m : List Ent} {x : Ent} (h : BodFam base w blk m) (hx : Own 1 u8Row 5 base w x.bv x.bd) (hf : ∀ (i : Nat) (y : Ent), m[i]? = some y → ∀ q, blkH y.bv = some q → blkH x.bv ≠ some q) (ho : ∀ q, blkH x.bv = some q → blk ≠ some q) : BodFam base w blk (m ++ [x]) := by
  have key : ∀ (i : Nat) (y : Ent), (m ++ [x])[i]? = some y → m[i]? = some y ∨ (i = m.length ∧ y = x) := by
    intro i y hy
    by_cases hi : i < m.length
    · rw [List.getElem?_append_left hi] at hy; exact .inl hy
    · rw [List.getElem?_append_right (by omega)] at hy
      by_cases h0 : i - m.length = 0
      · rw [h0] at hy; simp at hy; exact .inr ⟨by omega, hy.symm⟩
      · rw [List.getElem?_eq_none (by simp; omega)] at hy; simp at hy
  refine ⟨fun i y hy => ?_, fun i j y z hij hy hz q hq => ?_, fun i y hy q hq => ?_⟩
  · rcases key i y hy with h1 | ⟨-, rfl⟩
    · exact h.own i y h1
    · exact hx
  · rcases key i y hy with h1 | ⟨h1, rfl⟩
    · rcases key j z hz with h2 | ⟨h2, rfl⟩
      · exact h.far i j y z hij h1 h2 q hq
      · exact hf i y h1 q hq
    · rcases key j z hz with h2 | ⟨h2, rfl⟩
      · intro hz'; exact hf j z h2 q hz' hq
      · omega
  · rcases key i y hy with h1 | ⟨-, rfl⟩
    · exact h.out i y h1 q hq
    · exact ho q hq
end Go.Proofs.YtglkgmijhdkhpaaGreatDoor
/-
  heal's Give, Take: contracts.
-/
set_option linter.unusedVariables false
set_option linter.unusedSimpArgs false
namespace Go.Proofs.YtglkgmijhdkhpaaGreatDoor
open Go.RowKit

theorem recInfo : (Tryz.prog.info? 56).map (fun i => (i.zero, i.size, i.bytes)) = some (some (.agg #[.int .i64 0, .int .i64 0, .int .i64 0, .slice none 0 0, .int .i64 0, .int .i64 0, .int .i64 0]), 7, 72) := by kernel_rfl
/-- Records of the call's own, but for where bodies lie; each body in memory of its own. -/
structure RecRs (B : Nat) (w : World) (v : Value) (ls m : List Rec) : Prop where
  key : m.map nrmR = ls.map nrmR
  own : Own 7 recRow 56 B w v m
  bod : BodFam B w (blkH v) (m.map Rec.e)
theorem RecRs.nil_ (B : Nat) (w : World) : RecRs B w (.slice none 0 0) [] [] := ⟨rfl, Own.nil_ _ _ _ _ _, BodFam.nil_ _ _ _⟩
theorem RecRs.len {B : Nat} {w : World} {v : Value} {ls m : List Rec} (h : RecRs B w v ls m) : m.length = ls.length := by simpa using congrArg List.length h.key
theorem RecRs.later {B : Nat} {w w' : World} {v : Value} {ls m : List Rec} (h : RecRs B w v ls m) (hb : Below w.heap.size w w') : RecRs B w' v ls m :=
  ⟨h.key, h.own.later hb, h.bod.stay (fun i x hx q hq => hb.block q ((h.bod.own i x hx).block hq).2) h.bod.out⟩
/-- What may be read as records. -/
def RecIn (w : World) (r : Rec) : Prop := (EntIn w.heap.size w r.e ∧ r.e.bd.length ≤ 100000) ∧ H64 r.e.idx
theorem RecIn.later {w w' : World} {r : Rec} (h : RecIn w r) (hb : Below w.heap.size w w') : RecIn w' r := ⟨⟨h.1.1.later hb, h.1.2⟩, h.2⟩
def GivePost (ls : List Rec) (w : World) (e : Ending) (w' : World) : Prop := ∃ A c m, e = .returned (.slice A m.length c) ∧ RecRs w.heap.size w' (.slice A m.length c) ls m ∧ Below w.heap.size w w'
theorem giveS_some {l : List Rec} {most : Int} {out : List Rec} {p : Idt} {x : Rec} (h1 : (out.length : Int) < most) (h2 : l.find? (fitR p) = some x) : giveS l most out p = out ++ [x] := by unfold giveS; rw [if_pos h1, h2]
theorem giveS_no {l : List Rec} {most : Int} {out : List Rec} {p : Idt} (h1 : (out.length : Int) < most) (h2 : l.find? (fitR p) = none) : giveS l most out p = out := by unfold giveS; rw [if_pos h1, h2]

set_option maxRecDepth 100000 in
set_option maxHeartbeats 8000000 in
theorem healGive (l : List Rec) (want : List Idt) (vl vw : Value) (most : Int) (w : World) (hl : Sl 7 recRow w.heap.size w vl l) (hw : Sl 3 idRow w.heap.size w vw want) (hin : ∀ r ∈ l, RecIn w r) (hG : errTypeIs w) (hn : l.length ≤ 100000 ∧ want.length ≤ 100000) :
    Calls Tryz.prog 10 #[vl, vw, .int .i64 most] w (GivePost (giveV l want most) w) := by
  have HL := Lib.hid hl
  have HIN := Lib.hid hin
  have HG := Lib.hid hG
  obtain ⟨Al, cl, rfl, hlcl, hcml, -, hAl⟩ := id hl
  obtain ⟨Aw, cw, rfl, hlc, hcm, -, hAw⟩ := id hw
  have HAL := Lib.hid hAl
  have HAW := Lib.hid hAw
  have hln : l.length ≤ 100000 := hn.1
  have hwn : want.length ≤ 100000 := hn.2
  clear hl hw hin hG hlcl hcml hAl hlc hcm hAw hn
  go_enter Tryz.func10, Tryz.ntmps10
  go_wp2_with fail
  go_loopw [6, 8, 9, 10, 13] (fun o _ _ _ i wr => ∃ (k : Nat) (A : Option Addr) (c : Nat) (m : List Rec), k ≤ want.length ∧ i = .int .i64 (k : Int) ∧ o = .slice A m.length c ∧ RecRs w.heap.size wr (.slice A m.length c) (giveV l (want.take k) most) m ∧ Below w.heap.size w wr) (fun _ _ _ _ i _ => want.length - (kfOf i).toNat)
  case atStart => exact ⟨0, none, 0, [], by omega, rfl, rfl, RecRs.nil_ _ _, Below.refl _ _⟩
  case round =>
    obtain ⟨k, A, c, m, hk, rfl, rfl, hrs, hB⟩ := hrel
    have HR := Lib.hid hrs
    have HB := Lib.hid hB
    have hzr := hB.size
    have hml : m.length ≤ k := by have h1 := hrs.len; have h2 := give_len l (want.take k) most; rw [List.length_take] at h2; omega
    have i0 : (0 : Int) ≤ (k : Int) := by omega
    clear hrs hB
    by_cases hlt : k < want.length
    · have i1 : (k : Int) < (want.length : Int) := by omega
      have d0 : decide ((k : Int) < (want.length : Int)) = true := decide_eq_true i1
      obtain ⟨bw, ow, rfl, hbw, hcell⟩ := HAW.out (by intro h; subst h; simp at hlt)
      obtain ⟨p, hp⟩ : ∃ p, want[k]? = some p := ⟨_, List.getElem?_eq_getElem hlt⟩
      have c0 : wr.cell? ⟨bw, ow + k * 3, none⟩ = some (.int .i64 p.idx) := (HB.out.cell (p := ⟨bw, ow + k * 3 + 0, none⟩) hbw).trans (hcell k p hp 0 _ rfl)
      have c1 : wr.cell? ⟨bw, ow + k * 3 + 1, none⟩ = some (.int .i64 p.trm) := (HB.out.cell (p := ⟨bw, ow + k * 3 + 1, none⟩) hbw).trans (hcell k p hp 1 _ rfl)
      have c2 : wr.cell? ⟨bw, ow + k * 3 + 2, none⟩ = some (.int .i64 p.knd) := (HB.out.cell (p := ⟨bw, ow + k * 3 + 2, none⟩) hbw).trans (hcell k p hp 2 _ rfl)
      have HP := Lib.hid hp
      have HXP := Lib.hid (Box.new wr #[.int .i64 p.idx, .int .i64 p.trm, .int .i64 p.knd] 42)
      have HBP := Lib.hid (below_new wr (.cells #[.int .i64 p.idx, .int .i64 p.trm, .int .i64 p.knd] 42))
      obtain ⟨W1, hW1⟩ : ∃ q, q = wr.alloc (.cells #[.int .i64 p.idx, .int .i64 p.trm, .int .i64 p.knd] 42) := ⟨_, rfl⟩
      obtain ⟨gp, hgp⟩ : ∃ q, q = wr.heap.size := ⟨_, rfl⟩
      have HE := Lib.hid hW1
      have HE2 := Lib.hid hgp
      rw [← hW1] at HXP HBP
      rw [← hgp] at HXP
      have HR1 := Lib.hid (HR.out.later HBP.out)
      have HB1 := Lib.hid (HB.out.trans (HBP.out.mono hzr))
      have hz1 := HB1.out.size
      clear hcell hp hW1 hgp
      go_upto_region 4 with fail
      rw [← HE.out, ← HE2.out]
      clear c0 c1 c2
      by_cases hfull : most ≤ (m.length : Int)
      · have d1 : decide (most ≤ (m.length : Int)) = true := decide_eq_true hfull
        have HF := Lib.hid (give_full (l := l) (want := want) (most := most) (k := k) (by have := HR.out.len; omega))
        clear hfull
        go_wp2_with fail
        go_ret
        exact ⟨A, c, m, rfl, by rw [HF.out]; exact HR1.out, HB1.out⟩
      · have d1 : decide (most ≤ (m.length : Int)) = false := decide_eq_false hfull
        have d1' : ¬ most ≤ (m.length : Int) := hfull
        have HGT := Lib.hid (give_take (l := l) (most := most) HP.out)
        have hlm : ((giveV l (want.take k) most).length : Int) < most := by have := HR.out.len; omega
        have CI := Lib.hid (recGiveIndex gp (fitR p) l _ W1 (HL.out.later HB1.out) (fun x hx V hV => giveFn gp p x V (HXP.out.later hV) ((HIN.out x hx).1.1.later (below_call HB1.out hV)) (HIN.out x hx).2 (errType_later HG.out (below_call HB1.out hV))))
        have HLM := Lib.hid hlm
        clear hfull hlm
        go_upto_region 6 with (go_at_call 32; (with_reducible refine CI.out.mono ?_); rintro e w2 ⟨⟨r, rfl, hq⟩, hb2⟩; have HB2 := Lib.hid (HB1.out.trans (hb2.mono hz1)); have HR2 := Lib.hid (HR1.out.later hb2); clear hb2)
        have hz2 := HB2.out.size
        rcases hq with ⟨rfl, hq⟩ | ⟨k0, x, rfl, hx, -, hq, -⟩
        · have HGN := Lib.hid (show giveV l (want.take (k + 1)) most = giveV l (want.take k) most by rw [HGT.out, giveS_no HLM.out hq])
          have d2 : decide ((0 : Int) ≤ -1) = false := rfl
          clear hq
          go_wp2_with fail
          go_roundw
          case rel => exact ⟨k + 1, A, c, m, by omega, by go_num, rfl, by rw [HGN.out]; exact HR2.out, HB2.out⟩
          case measure => first | (simp [kfOf]; done) | (simp [kfOf]; omega)
        · have HGN := Lib.hid (show giveV l (want.take (k + 1)) most = giveV l (want.take k) most ++ [x] by rw [HGT.out, giveS_some HLM.out hq])
          have d2 : decide ((0 : Int) ≤ (k0 : Int)) = true := decide_eq_true (by omega)
          have hk0 := (List.getElem?_eq_some_iff.1 hx).1
          have j0 : (0 : Int) ≤ (k0 : Int) := by omega
          have j1 : (k0 : Int) < (l.length : Int) := by omega
          obtain ⟨bl, ol, rfl, hbl, hcell⟩ := HAL.out (by intro h; subst h; simp at hk0)
          have HCX : Hid (∀ (j : Nat) (u : Value), (recRow x)[j]? = some u → w2.cell? ⟨bl, ol + k0 * 7 + j, none⟩ = some u) := fun j u hu => (HB2.out.cell (p := ⟨bl, ol + k0 * 7 + j, none⟩) hbl).trans (hcell k0 x hx j u hu)
          have c0 : w2.cell? ⟨bl, ol + k0 * 7, none⟩ = some (.int .i64 x.e.idx) := HCX.out 0 _ rfl
          have c1 : w2.cell? ⟨bl, ol + k0 * 7 + 1, none⟩ = some (.int .i64 x.e.trm) := HCX.out 1 _ rfl
          have c2 : w2.cell? ⟨bl, ol + k0 * 7 + 2, none⟩ = some (.int .i64 x.e.knd) := HCX.out 2 _ rfl
          have c3 : w2.cell? ⟨bl, ol + k0 * 7 + 3, none⟩ = some (.slice x.e.ba x.e.bd.length x.e.bc) := HCX.out 3 _ rfl
          have c4 : w2.cell? ⟨bl, ol + k0 * 7 + 4, none⟩ = some (.int .i64 x.a.idx) := HCX.out 4 _ rfl
          have c5 : w2.cell? ⟨bl, ol + k0 * 7 + 5, none⟩ = some (.int .i64 x.a.trm) := HCX.out 5 _ rfl
          have c6 : w2.cell? ⟨bl, ol + k0 * 7 + 6, none⟩ = some (.int .i64 x.a.knd) := HCX.out 6 _ rfl
          have HXI := Lib.hid (HIN.out x (List.mem_of_getElem? hx))
          have HXX := Lib.hid (Box.new w2 #[.int .i64 x.e.idx, .int .i64 x.e.trm, .int .i64 x.e.knd, .slice x.e.ba x.e.bd.length x.e.bc, .int .i64 x.a.idx, .int .i64 x.a.trm, .int .i64 x.a.knd] 56)
          have HBX := Lib.hid (below_new w2 (.cells #[.int .i64 x.e.idx, .int .i64 x.e.trm, .int .i64 x.e.knd, .slice x.e.ba x.e.bd.length x.e.bc, .int .i64 x.a.idx, .int .i64 x.a.trm, .int .i64 x.a.knd] 56))
          obtain ⟨wa, hwa⟩ : ∃ q, q = w2.alloc (.cells #[.int .i64 x.e.idx, .int .i64 x.e.trm, .int .i64 x.e.knd, .slice x.e.ba x.e.bd.length x.e.bc, .int .i64 x.a.idx, .int .i64 x.a.trm, .int .i64 x.a.knd] 56) := ⟨_, rfl⟩
          obtain ⟨gx, hgx⟩ : ∃ q, q = w2.heap.size := ⟨_, rfl⟩
          have HE3 := Lib.hid hwa
          have HE4 := Lib.hid hgx
          have hgl : w2.heap.size ≤ gx := by omega
          have hgl2 : gx < wa.heap.size := by rw [hwa, hgx]; simp
          have hgl3 : w.heap.size ≤ gx := by omega
          rw [← hwa] at HXX HBX
          rw [← hgx] at HXX
          have HMLN := Lib.hid hml
          clear hq hx hcell hwa hgx
          go_upto_region 8 with fail
          rw [← HE3.out, ← HE4.out]
          clear c0 c1 c2 c3 c4 c5 c6
          obtain ⟨ka, fa, za⟩ := HXX.out.facts
          have CB := Lib.hid (cloneBytes x.e.bd _ wa (HXI.out.1.1.1.later (below_call HB2.out HBX.out)) HXI.out.1.2)
          go_upto_region 9 with (go_at_call 38; (with_reducible refine CB.out.mono ?_); rintro e w3 ⟨A2, c2, rfl, ho, hb⟩; have HO2 := Lib.hid ho; have HBC := Lib.hid hb; obtain ⟨kb, fb, zb⟩ := (HXX.out.later hb).facts; clear ho hb ka fa za)
          have HX3 := Lib.hid ((HXX.out.later HBC.out).set_ 3 (.slice A2 x.e.bd.length c2))
          have HB3 := Lib.hid (below_set (i := 3) (u := .slice A2 x.e.bd.length c2) (below_call HBX.out HBC.out) hgl)
          have HO3 := Lib.hid (HO2.out.set_below (i := 3) (u := .slice A2 x.e.bd.length c2) hgl2)
          have hw3 : wa.heap.size ≤ w3.heap.size := HBC.out.size
          obtain ⟨w4, hw4⟩ : ∃ y, y = w3.setCell ⟨gx, 3, none⟩ (.slice A2 x.e.bd.length c2) := ⟨_, rfl⟩
          have hs4 : w4.heap.size = w3.heap.size := by rw [hw4]; simp
          rw [← hw4] at HX3 HB3 HO3
          rw [← hw4]
          clear hw4 kb fb zb
          have HX4 := Lib.hid (show Box w4 gx #[.int .i64 x.e.idx, .int .i64 x.e.trm, .int .i64 x.e.knd, .slice A2 x.e.bd.length c2, .int .i64 x.a.idx, .int .i64 x.a.trm, .int .i64 x.a.knd] 56 from HX3.out)
          obtain ⟨kc, fc, zc⟩ := HX4.out.facts
          have HOr := Lib.hid (HR2.out.own.later HB3.out)
          have hbz : w.heap.size ≤ w4.heap.size := by omega
          have hwz : w2.heap.size ≤ w4.heap.size := by omega
          have HS4 := Lib.hid hs4
          clear hs4
          go_wp2_with (at_builtin; refine wpList_append_keepH1 _ rfl (.tmp 36) (.tmp 38) 23 rfl w.heap.size 56 _ 7 72 Tryz.underlying23 recInfo rfl (Nat.succ_pos 6) recRow recRow_length recRow_one m _ rfl HOr.out.h (⟨⟨x.e.idx, x.e.trm, x.e.knd, A2, c2, x.e.bd⟩, x.a⟩ : Rec) _ rfl 56 _ rfl rfl (by omega) (by omega) hbz ?_; intro g7 c7 w7 p1 p2 p3 p4 p5 p6 p7; have HP1 := Lib.hid p1; have HP3 := Lib.hid p3; have HP4 := Lib.hid p4; have HP5 := Lib.hid p5; have HP7 := Lib.hid p7; clear p1 p2 p3 p4 p5 p6 p7)
          go_roundw
          case rel =>
            have hs4 := HS4.out
            have hF := HR2.out.bod
            have hOm := HR2.out.own
            have hold : ∀ (i : Nat) (y : Ent), (m.map Rec.e)[i]? = some y → ∀ q, y.bv.ownBlock = some q → w7.heap[q]? = w2.heap[q]? := fun i y hy q hq => by
              have hb := (hF.own i y hy).block hq
              have hne : some q ≠ blkH (.slice A m.length c) := fun he => by
                by_cases hbq : blkH y.bv = some q
                · exact hF.out i y hy q hbq he.symm
                · rcases (hF.own i y hy).2 with ⟨hv, _⟩ | ⟨gq, cq, cur, hv, _, hh, _, _, hs, _⟩
                  · rw [hv] at hq; simp [Value.ownBlock] at hq
                  · rcases hOm.2 with ⟨hv2, _⟩ | ⟨g2, c2', cur2, hv2, _, hh2, _⟩
                    · rw [hv2] at he; simp [blkH] at he
                    · have e1 : gq = q := by rw [hv] at hq; simpa [Value.ownBlock] using hq
                      have e2 : g2 = q := by
                        have h9 := blkH_own he.symm
                        rw [hv2] at h9; simpa [Value.ownBlock] using h9
                      subst e1; subst e2
                      rw [hh] at hh2
                      simp only [Option.some.injEq, Obj.cells.injEq] at hh2
                      exact absurd hh2.2.1 (by decide)
              exact (HP4.out q (by omega) hne).trans (HB3.out.block q hb.2)
            have hbody : Own 1 u8Row 5 w.heap.size w7 (.slice A2 x.e.bd.length c2) x.e.bd := (HO3.out.less (by omega)).stay fun q hq => HP4.out q (HO3.out.block hq).2 (fun he => by
              have h1 := HO3.out.block hq
              have h2 := hOm.block (blkH_own he.symm)
              omega)
            have hnew : ∀ q, blkH (.slice A2 x.e.bd.length c2) = some q → wa.heap.size ≤ q ∧ q < w4.heap.size := fun q hq => HO3.out.block (blkH_own hq)
            have hlist : ∀ q, blkH (.slice (some ⟨g7, 0, none⟩) (m.length + 1) c7) = some q → blkH (.slice A m.length c) = some q ∨ w4.heap.size < q := fun q hq => by
              have e1 : g7 = q := by have := blkH_own hq; simpa [Value.ownBlock] using this
              subst e1; exact HP5.out
            have hll : (m ++ [(⟨⟨x.e.idx, x.e.trm, x.e.knd, A2, c2, x.e.bd⟩, x.a⟩ : Rec)]).length = m.length + 1 := by simp
            refine ⟨k + 1, some ⟨g7, 0, none⟩, c7, m ++ [⟨⟨x.e.idx, x.e.trm, x.e.knd, A2, c2, x.e.bd⟩, x.a⟩], by omega, by go_num, by rw [hll], ?_, HB2.out.trans ((HB3.out.mono hz2).trans HP3.out)⟩
            rw [hll]
            refine ⟨by rw [List.map_append, HR2.out.key, HGN.out, List.map_append]; rfl, HP1.out, ?_⟩
            rw [List.map_append]
            refine BodFam.snoc (hF.stay hold (fun i y hy q hq he => ?_)) hbody (fun i y hy q hq he => ?_) (fun q hq he => ?_)
            · have h1 := hF.lt hy hq
              rcases hlist q he with h2 | h2
              · exact hF.out i y hy q hq h2
              · omega
            · have h1 := hF.lt hy hq
              have h2 := hnew q he; omega
            · have h1 := hnew q hq
              rcases hlist q he with h2 | h2
              · have h3 := hOm.block (blkH_own h2); omega
              · omega
          case measure => first | (simp [kfOf]; done) | (simp [kfOf]; omega)
    · have d0 : decide ((k : Int) < (want.length : Int)) = false := decide_eq_false (by omega)
      have hke : k = want.length := by omega
      have HRF := Lib.hid (show RecRs w.heap.size wr (.slice A m.length c) (giveV l want most) m by have h := HR.out; rw [hke, List.take_length] at h; exact h)
      clear hke
      go_wp2_with fail
      go_ret
      exact ⟨A, c, m, rfl, HRF.out, HB.out⟩
end Go.Proofs.YtglkgmijhdkhpaaGreatDoor
/-
  RECORDS that were given, taken: what they are.
-/
set_option linter.unusedVariables false
set_option linter.unusedSimpArgs false
namespace Go.Proofs.YtglkgmijhdkhpaaGreatDoor
open Go.RowKit

/-- What is taken. -/
structure TookOk (rot : List Idt) (m : List Rec) : Prop where
  mem : ∀ x ∈ m, goodE x.e = true ∧ ofE x.e ∈ wantsV rot ∧ x.a.idx = x.e.idx - 1
  ord : m.Pairwise fun x y => x.e.idx < y.e.idx
  len : m.length ≤ rot.length
theorem took_ok {rot : List Idt} {l m : List Rec} (h : m.map nrmR = (takeV rot l).map nrmR) : TookOk rot m := by
  have h2 : m.map nrmR = takeV rot (l.map nrmR) := h.trans (take_nrm rot l).symm
  refine ⟨fun x hx => ?_, ?_, ?_⟩
  · have hm : nrmR x ∈ takeV rot (l.map nrmR) := by rw [← h2]; exact List.mem_map_of_mem hx
    have hg := give_mem hm
    have ha := goodR_ahead hg.2.1
    exact ⟨ha.1, hg.2.2, ha.2.1⟩
  · have ho := take_order rot (l.map nrmR)
    rw [← h2, List.pairwise_map] at ho
    exact ho
  · have h3 := congrArg List.length h2
    rw [List.length_map] at h3
    have h4 := give_len (l.map nrmR) (wantsV rot) rot.length
    have h5 := wants_len rot
    have h6 : (takeV rot (l.map nrmR)).length ≤ (wantsV rot).length := h4
    omega
theorem gave_ok {want : List Idt} {l m : List Rec} {most : Int} (h : m.map nrmR = (giveV l want most).map nrmR) : (∀ x ∈ m, ofE x.e ∈ want) ∧ (m.length : Int) ≤ max most 0 := by
  have h2 : m.map nrmR = giveV (l.map nrmR) want most := h.trans (give_nrm l want most).symm
  refine ⟨fun x hx => ?_, ?_⟩
  · have hm : nrmR x ∈ giveV (l.map nrmR) want most := by rw [← h2]; exact List.mem_map_of_mem hx
    exact (give_mem hm).2.2
  · have h3 := congrArg List.length h2
    rw [List.length_map] at h3
    have := give_le (l.map nrmR) want most
    omega
theorem WantsV_all (rot : List Idt) : WantsV rot rot.length = wantsV rot := by
  unfold WantsV
  have := wants_len rot
  rw [show (min (((wantsV rot).length : Int)) (max (rot.length : Int) 0)).toNat = (wantsV rot).length by omega, List.take_length]
theorem rec_from {x : Rec} {l m : List Rec} {want : List Idt} {most : Int} (h : m.map nrmR = (giveV l want most).map nrmR) (hx : x ∈ m) : ∃ y ∈ l, y.e.idx = x.e.idx ∧ y.e.trm = x.e.trm ∧ y.e.knd = x.e.knd ∧ y.e.bd = x.e.bd ∧ y.a = x.a := by
  have hm : nrmR x ∈ (giveV l want most).map nrmR := by rw [← h]; exact List.mem_map_of_mem hx
  obtain ⟨y, hy, hxy⟩ := List.mem_map.1 hm
  have h1 : nrmE y.e = nrmE x.e := congrArg Rec.e hxy
  exact ⟨y, (give_mem hy).1, (congrArg Ent.idx h1 : _), (congrArg Ent.trm h1 : _), (congrArg Ent.knd h1 : _), (congrArg Ent.bd h1 : _), (congrArg Rec.a hxy : _)⟩
theorem rec_in {B : Nat} {w V : World} {v : Value} {l m : List Rec} {want : List Idt} {most : Int} (h : RecRs B w v (giveV l want most) m) (hl : ∀ r ∈ l, ∀ y ∈ r.e.bd, 0 ≤ y ∧ y ≤ 255) (hV : Below w.heap.size w V) : ∀ x ∈ m, EntIn V.heap.size V x.e := fun x hx => by
  obtain ⟨i, hi⟩ := List.mem_iff_getElem?.1 hx
  have h1 := h.bod.own i x.e (by rw [List.getElem?_map, hi]; rfl)
  obtain ⟨y, hy, -, -, -, hbd, -⟩ := rec_from h.key hx
  exact ⟨(h1.sl u8Row_length).later hV, by rw [← hbd]; exact hl y hy⟩

end Go.Proofs.YtglkgmijhdkhpaaGreatDoor
