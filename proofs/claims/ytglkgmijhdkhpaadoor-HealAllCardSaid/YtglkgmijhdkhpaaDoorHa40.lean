/-
  limpetlaw24's rotten, theirs: contracts.
-/
import Derived.Test.YtglkgmijhdkhpaaDoorHa39
import Derived.Test.YtglkgmijhdkhpaaDoorHa9
set_option linter.unusedVariables false
set_option linter.unusedSimpArgs false
namespace Go.Proofs.YtglkgmijhdkhpaaDoor
open Go.RowKit

/-- Bit k. -/
def bitV (B : Int) (k : Nat) : Bool := bits BinOp.and IntKind.u64 (B / 2 ^ (k % 64)) 1 == 1
theorem bit01 {B : Int} (k : Nat) (h0 : 0 ≤ B) (h1 : B < 18446744073709551616) : bits BinOp.and IntKind.u64 (B / 2 ^ (k % 64)) 1 = 0 ∨ bits BinOp.and IntKind.u64 (B / 2 ^ (k % 64)) 1 = 1 := by
  have hp : (0 : Int) < 2 ^ (k % 64) := Int.pow_pos (by omega)
  have g0 : 0 ≤ B / 2 ^ (k % 64) := Int.ediv_nonneg h0 (by omega)
  have g1 : B / 2 ^ (k % 64) ≤ B := Int.ediv_le_self _ h0
  obtain ⟨y, hy⟩ : ∃ y, y = B / 2 ^ (k % 64) := ⟨_, rfl⟩
  rw [← hy] at g0 g1 ⊢
  have h := bits_and_u64_nat y.toNat 1 (by omega) (by omega)
  rw [Nat.and_one_is_mod, Int.toNat_of_nonneg g0] at h
  have h3 : bits BinOp.and IntKind.u64 y 1 = ((y.toNat % 2 : Nat) : Int) := h
  omega
theorem bit_zero {B : Int} (k : Nat) (h0 : 0 ≤ B) (h1 : B < 18446744073709551616) : (bits BinOp.and IntKind.u64 (B / 2 ^ (k % 64)) 1 == 0) = !bitV B k := by
  unfold bitV
  rcases bit01 k h0 h1 with h | h <;> rw [h] <;> rfl
theorem rotAt_yes {b : Nat → Bool} {l : List Ent} {k : Nat} {x : Ent} (hx : l[k]? = some x) (hb : b k = true) : rotAt b l k = some (if decide (k + 1 < l.length) && b (k + 1) then ⟨x.idx, 0, 0⟩ else ofE x) := by unfold rotAt; rw [if_pos hb, hx]; rfl
theorem rotAt_no {b : Nat → Bool} {l : List Ent} {k : Nat} (hb : b k = false) : rotAt b l k = none := by unfold rotAt; rw [if_neg (by rw [hb]; simp)]
set_option maxRecDepth 100000 in
set_option maxHeartbeats 4000000 in
theorem rotten24 (l : List Ent) (B : Int) (v : Value) (w : World) (h : Sl 4 entRow w.heap.size w v l) (hn : l.length ≤ 60) (hB0 : 0 ≤ B) (hB1 : B < 18446744073709551616) :
    Calls Tryd.prog 16 #[v, .int .u64 B] w fun e w' => ∃ v', e = .returned v' ∧ Own 3 idRow 31 w.heap.size w' v' (rotV (bitV B) l l.length) ∧ Below w.heap.size w w' := by
  obtain ⟨Al, cl, rfl, -, -, -, hA⟩ := h
  have HA := Lib.hid hA
  clear hA
  go_enter Tryd.func16, Tryd.ntmps16
  go_wp2_with fail
  go_loopw [5, 6, 7] (fun o i _ wr => ∃ (k : Nat) (ov : Value), ov = o ∧ k ≤ l.length ∧ i = .int .i64 (k : Int) ∧ Own 3 idRow 31 w.heap.size wr ov (rotV (bitV B) l k) ∧ Below w.heap.size w wr) (fun _ i _ _ => l.length - (kOf i).toNat)
  case atStart => exact ⟨0, _, rfl, by omega, rfl, Own.nil_ _ _ _ _ _, Below.refl _ _⟩
  case round =>
    obtain ⟨k, ov, rfl, hk, rfl, ho, hb⟩ := hrel
    have HO := Lib.hid ho
    have HB := Lib.hid hb
    have hz := hb.size
    have i0 : (0 : Int) ≤ (k : Int) := by omega
    have hlr := rotV_len (bitV B) l k
    clear ho hb
    by_cases hlt : k < l.length
    · have i1 : (k : Int) < (l.length : Int) := by omega
      have d0 : decide ((k : Int) < (l.length : Int)) = true := decide_eq_true i1
      obtain ⟨b, off, rfl, hbb, hcell⟩ := HA.out (by intro h; subst h; simp at hlt)
      obtain ⟨x, hx⟩ : ∃ x, l[k]? = some x := ⟨_, List.getElem?_eq_getElem hlt⟩
      have HXX := Lib.hid hx
      have HSC := Lib.hid (rotV_succ (bitV B) l k)
      have i2 : (k : Int) < 60 := by omega
      have HBZ := Lib.hid (bit_zero (B := B) k hB0 hB1)
      have HBN := Lib.hid (show (bits BinOp.and IntKind.u64 (B / 2 ^ ((k + 1) % 64)) 1 == 1) = bitV B (k + 1) from rfl)
      by_cases hbt : bitV B k = true
      · have e0 : (bits BinOp.and IntKind.u64 (B / 2 ^ (k % 64)) 1 == 0) = false := by rw [HBZ.out, hbt]; rfl
        have HRA := Lib.hid (rotAt_yes hx hbt)
        have c0 : wr.cell? ⟨b, off + k * 4, none⟩ = some (.int .i64 x.idx) := (HB.out.cell (p := ⟨b, off + k * 4 + 0, none⟩) hbb).trans (hcell k x hx 0 _ rfl)
        have c1 : wr.cell? ⟨b, off + k * 4 + 1, none⟩ = some (.int .i64 x.trm) := (HB.out.cell (p := ⟨b, off + k * 4 + 1, none⟩) hbb).trans (hcell k x hx 1 _ rfl)
        have c2 : wr.cell? ⟨b, off + k * 4 + 2, none⟩ = some (.int .i64 x.knd) := (HB.out.cell (p := ⟨b, off + k * 4 + 2, none⟩) hbb).trans (hcell k x hx 2 _ rfl)
        have c3 : wr.cell? ⟨b, off + k * 4 + 3, none⟩ = some (.slice x.ba x.bd.length x.bc) := (HB.out.cell (p := ⟨b, off + k * 4 + 3, none⟩) hbb).trans (hcell k x hx 3 _ rfl)
        have CO := Lib.hid (entOf x wr)
        clear hcell hx hbt
        go_upto_region 7 with (go_at_call 10; (with_reducible refine CO.out.mono ?_); rintro e w5 ⟨rfl, hb5⟩; have HB5 := Lib.hid hb5; clear hb5)
        clear c0 c1 c2 c3 CO e0
        have HXP := Lib.hid (Box.new w5 #[.int .i64 x.idx, .int .i64 x.trm, .int .i64 x.knd] 31)
        have HBP := Lib.hid ((HB.out.trans (HB5.out.mono hz)).alloc (Nat.le_trans hz HB5.out.size) (.cells #[.int .i64 x.idx, .int .i64 x.trm, .int .i64 x.knd] 31))
        have HOP := Lib.hid ((HO.out.later HB5.out).alloc (.cells #[.int .i64 x.idx, .int .i64 x.trm, .int .i64 x.knd] 31))
        have hgl : w.heap.size ≤ w5.heap.size := Nat.le_trans hz HB5.out.size
        have hob : ∀ q, ov.ownBlock = some q → q ≠ w5.heap.size := fun q hq => by have h1 := (HO.out.block hq).2; have h2 := HB5.out.size; omega
        obtain ⟨W6, hW6⟩ : ∃ z, z = w5.alloc (.cells #[.int .i64 x.idx, .int .i64 x.trm, .int .i64 x.knd] 31) := ⟨_, rfl⟩
        obtain ⟨gp, hgp⟩ : ∃ z, z = w5.heap.size := ⟨_, rfl⟩
        rw [← hW6] at HXP HBP HOP
        rw [← hgp] at HXP hgl hob
        rw [← hW6, ← hgp]
        clear hW6 hgp
        have hz6 := HBP.out.size
        obtain ⟨kp, fp, zp⟩ := HXP.out.facts
        have HOB := Lib.hid hob
        clear hob
        by_cases hn2 : k + 1 < l.length
        · have j1 : (k : Int) + 1 < (l.length : Int) := by omega
          have d1 : decide ((k : Int) + 1 < (l.length : Int)) = true := decide_eq_true j1
          have d1n : decide (k + 1 < l.length) = true := decide_eq_true hn2
          by_cases hb2 : bitV B (k + 1) = true
          · have e1 : (bits BinOp.and IntKind.u64 (B / 2 ^ ((k + 1) % 64)) 1 == 1) = true := by rw [HBN.out]; exact hb2
            have HRR := Lib.hid (show rotV (bitV B) l (k + 1) = rotV (bitV B) l k ++ [⟨x.idx, 0, 0⟩] by rw [HSC.out, HRA.out, d1n, hb2]; rfl)
            have HX7 := Lib.hid (HXP.out.set3h (.int .i64 x.idx) (.int .i64 0) (.int .i64 0))
            have HB7 := Lib.hid (below_set (i := 2) (u := .int .i64 0) (below_set (i := 1) (u := .int .i64 0) (below_set (i := 0) (u := .int .i64 x.idx) HBP.out (n := gp) hgl) (n := gp) hgl) (n := gp) hgl)
            have HO7 := Lib.hid (show Own 3 idRow 31 w.heap.size (((W6.setCell ⟨gp, 0, none⟩ (.int .i64 x.idx)).setCell ⟨gp, 1, none⟩ (.int .i64 0)).setCell ⟨gp, 2, none⟩ (.int .i64 0)) ov (rotV (bitV B) l k) from HOP.out.stay fun q hq => by
              rw [Below.heap_setCell _ ⟨gp, 2, none⟩ _ q (HOB.out q hq), Below.heap_setCell _ ⟨gp, 1, none⟩ _ q (HOB.out q hq), Below.heap_setCell _ ⟨gp, 0, none⟩ _ q (HOB.out q hq)])
            clear hb2
            go_upto_region 9 with fail
            obtain ⟨W7, hW7⟩ : ∃ z, z = ((W6.setCell ⟨gp, 0, none⟩ (.int .i64 x.idx)).setCell ⟨gp, 1, none⟩ (.int .i64 0)).setCell ⟨gp, 2, none⟩ (.int .i64 0) := ⟨_, rfl⟩
            rw [← hW7] at HX7 HB7 HO7
            rw [← hW7]
            clear hW7 kp fp zp e1
            have hz7 := HB7.out.size
            obtain ⟨kp, fp, zp⟩ := HX7.out.facts
            go_wp2_with (at_builtin; refine wpList_append_row _ rfl (.tmp 42) (.tmp 44) 22 rfl w.heap.size 31 _ 3 24 Tryd.underlying22 idtInfo rfl (Nat.succ_pos 2) idRow idRow_length idRow_one _ _ rfl HO7.out ((⟨x.idx, 0, 0⟩ : Idt)) _ rfl 31 _ rfl rfl (by omega) (by omega) hz7 ?_; intro v' w' p1 p2 p3 p4 p5; have P1 := Lib.hid p1; have P2 := Lib.hid p2; clear p1 p2 p3 p4 p5)
            go_roundw
            case rel => exact ⟨k + 1, _, rfl, by omega, by go_num, by rw [HRR.out]; exact P1.out, HB7.out.trans P2.out⟩
            case measure => first | (simp [kOf]; done) | (simp [kOf]; omega)
          · have hb3 : bitV B (k + 1) = false := by simpa using hb2
            have e1 : (bits BinOp.and IntKind.u64 (B / 2 ^ ((k + 1) % 64)) 1 == 1) = false := by rw [HBN.out]; exact hb3
            have HRR := Lib.hid (show rotV (bitV B) l (k + 1) = rotV (bitV B) l k ++ [ofE x] by rw [HSC.out, HRA.out, d1n, hb3]; rfl)
            clear hb2 hb3
            go_wp2_with (at_builtin; refine wpList_append_row _ rfl (.tmp 42) (.tmp 44) 22 rfl w.heap.size 31 _ 3 24 Tryd.underlying22 idtInfo rfl (Nat.succ_pos 2) idRow idRow_length idRow_one _ _ rfl HOP.out (ofE x) _ rfl 31 _ rfl rfl (by omega) (by omega) hz6 ?_; intro v' w' p1 p2 p3 p4 p5; have P1 := Lib.hid p1; have P2 := Lib.hid p2; clear p1 p2 p3 p4 p5)
            go_roundw
            case rel => exact ⟨k + 1, _, rfl, by omega, by go_num, by rw [HRR.out]; exact P1.out, HBP.out.trans P2.out⟩
            case measure => first | (simp [kOf]; done) | (simp [kOf]; omega)
        · have d1 : decide ((k : Int) + 1 < (l.length : Int)) = false := decide_eq_false (by omega)
          have d1n : decide (k + 1 < l.length) = false := decide_eq_false hn2
          have HRR := Lib.hid (show rotV (bitV B) l (k + 1) = rotV (bitV B) l k ++ [ofE x] by rw [HSC.out, HRA.out, d1n]; rfl)
          go_wp2_with (at_builtin; refine wpList_append_row _ rfl (.tmp 42) (.tmp 44) 22 rfl w.heap.size 31 _ 3 24 Tryd.underlying22 idtInfo rfl (Nat.succ_pos 2) idRow idRow_length idRow_one _ _ rfl HOP.out (ofE x) _ rfl 31 _ rfl rfl (by omega) (by omega) hz6 ?_; intro v' w' p1 p2 p3 p4 p5; have P1 := Lib.hid p1; have P2 := Lib.hid p2; clear p1 p2 p3 p4 p5)
          go_roundw
          case rel => exact ⟨k + 1, _, rfl, by omega, by go_num, by rw [HRR.out]; exact P1.out, HBP.out.trans P2.out⟩
          case measure => first | (simp [kOf]; done) | (simp [kOf]; omega)
      · have hbf : bitV B k = false := by simpa using hbt
        have e0 : (bits BinOp.and IntKind.u64 (B / 2 ^ (k % 64)) 1 == 0) = true := by rw [HBZ.out, hbf]; rfl
        have HRR := Lib.hid (show rotV (bitV B) l (k + 1) = rotV (bitV B) l k by rw [HSC.out, rotAt_no hbf]; simp)
        clear hcell hx hbt hbf
        go_wp2_with fail
        go_roundw
        case rel => exact ⟨k + 1, ov, rfl, by omega, by go_num, by rw [HRR.out]; exact HO.out, HB.out⟩
        case measure => first | (simp [kOf]; done) | (simp [kOf]; omega)
    · have d0 : decide ((k : Int) < (l.length : Int)) = false := decide_eq_false (by omega)
      have hke : k = l.length := by omega
      have HF := Lib.hid (show Own 3 idRow 31 w.heap.size wr ov (rotV (bitV B) l l.length) by have h := HO.out; rw [hke] at h; exact h)
      clear hke
      go_wp2_with fail
      go_ret
      exact ⟨ov, rfl, HF.out, HB.out⟩

set_option maxRecDepth 100000 in
set_option maxHeartbeats 4000000 in
theorem theirs24 (rot : List Idt) (l : List Ent) (vr v : Value) (w : World) (hr : Sl 3 idRow w.heap.size w vr rot) (h : Sl 4 entRow w.heap.size w v l) (hth : ∀ p ∈ rot, ∃ (k : Nat) (x : Ent), l[k]? = some x ∧ p.idx = (k : Int) + 1 ∧ (p.knd ≠ 0 → p = ofE x)) (hn : l.length ≤ 100000) (hnr : rot.length ≤ 100000) :
    Calls Tryd.prog 18 #[vr, v] w fun e w' => e = .returned (.bool true) ∧ Below w.heap.size w w' := by
  obtain ⟨Al, cl, rfl, -, -, -, hA⟩ := h
  obtain ⟨Ar, cr, rfl, -, -, -, hAr⟩ := hr
  have HA := Lib.hid hA
  have HR := Lib.hid hAr
  have HT := Lib.hid hth
  clear hA hAr hth
  go_enter Tryd.func18, Tryd.ntmps18
  go_wp2_with fail
  go_loopw [5, 6] (fun i _ wr => ∃ k : Nat, k ≤ rot.length ∧ i = .int .i64 (k : Int) ∧ Below w.heap.size w wr) (fun i _ _ => rot.length - (kOf i).toNat)
  case atStart => exact ⟨0, by omega, rfl, Below.refl _ _⟩
  case round =>
    obtain ⟨k, hk, rfl, hb⟩ := hrel
    have HB := Lib.hid hb
    have i0 : (0 : Int) ≤ (k : Int) := by omega
    clear hb
    by_cases hlt : k < rot.length
    · have i1 : (k : Int) < (rot.length : Int) := by omega
      have d0 : decide ((k : Int) < (rot.length : Int)) = true := decide_eq_true i1
      obtain ⟨b, off, rfl, hbb, hcell⟩ := HR.out (by intro h; subst h; simp at hlt)
      obtain ⟨p, hp⟩ : ∃ p, rot[k]? = some p := ⟨_, List.getElem?_eq_getElem hlt⟩
      obtain ⟨j, x, hx, hpi, hpk⟩ := HT.out p (List.mem_of_getElem? hp)
      have hjl := (List.getElem?_eq_some_iff.1 hx).1
      obtain ⟨b2, off2, rfl, hbb2, hcell2⟩ := HA.out (by intro h; subst h; simp at hjl)
      have HCL : Hid (∀ z : Ext wr, Below w.heap.size w z.wd) := fun z => HB.out.trans (z.low.mono HB.out.size)
      have cc : wr.cell? ⟨b, off + k * 3, none⟩ = some (.int .i64 ((j : Int) + 1)) := ((HB.out.cell (p := ⟨b, off + k * 3 + 0, none⟩) hbb).trans (hcell k p hp 0 _ rfl)).trans (by rw [hpi])
      have kp0 : ∀ z : Ext wr, z.wd.cell? ⟨b, off + k * 3, none⟩ = some (.int .i64 ((j : Int) + 1)) := fun z => (((HCL.out z).cell (p := ⟨b, off + k * 3 + 0, none⟩) hbb).trans (hcell k p hp 0 _ rfl)).trans (by rw [hpi])
      have kx0 : ∀ z : Ext wr, z.wd.cell? ⟨b2, off2 + j * 4, none⟩ = some (.int .i64 x.idx) := fun z => ((HCL.out z).cell (p := ⟨b2, off2 + j * 4 + 0, none⟩) hbb2).trans (hcell2 j x hx 0 _ rfl)
      have kx1 : ∀ z : Ext wr, z.wd.cell? ⟨b2, off2 + j * 4 + 1, none⟩ = some (.int .i64 x.trm) := fun z => ((HCL.out z).cell (p := ⟨b2, off2 + j * 4 + 1, none⟩) hbb2).trans (hcell2 j x hx 1 _ rfl)
      have kx2 : ∀ z : Ext wr, z.wd.cell? ⟨b2, off2 + j * 4 + 2, none⟩ = some (.int .i64 x.knd) := fun z => ((HCL.out z).cell (p := ⟨b2, off2 + j * 4 + 2, none⟩) hbb2).trans (hcell2 j x hx 2 _ rfl)
      have kx3 : ∀ z : Ext wr, z.wd.cell? ⟨b2, off2 + j * 4 + 3, none⟩ = some (.slice x.ba x.bd.length x.bc) := fun z => ((HCL.out z).cell (p := ⟨b2, off2 + j * 4 + 3, none⟩) hbb2).trans (hcell2 j x hx 3 _ rfl)
      have j0 : (0 : Int) ≤ (j : Int) := by omega
      have j1 : (j : Int) < (l.length : Int) := by omega
      have d1 : decide ((j : Int) < 0) = false := decide_eq_false (by omega)
      have d2 : decide ((l.length : Int) ≤ (j : Int)) = false := decide_eq_false (by omega)
      have d2n : decide (l.length ≤ j) = false := decide_eq_false (by omega)
      have CO := Lib.hid (show ∀ z : Ext wr, Calls Tryd.prog 10 #[.agg #[.int .i64 x.idx, .int .i64 x.trm, .int .i64 x.knd, .slice x.ba x.bd.length x.bc]] z.wd fun e w' => e = .returned (.agg #[.int .i64 x.idx, .int .i64 x.trm, .int .i64 x.knd]) ∧ Below z.wd.heap.size z.wd w' from fun z => entOf x z.wd)
      by_cases hkd : p.knd = 0
      · have kp2 : ∀ z : Ext wr, z.wd.cell? ⟨b, off + k * 3 + 2, none⟩ = some (.int .i64 0) := fun z => (((HCL.out z).cell (p := ⟨b, off + k * 3 + 2, none⟩) hbb).trans (hcell k p hp 2 _ rfl)).trans (by rw [hkd])
        clear hcell hcell2 hp hx hkd hpi hpk hjl
        go_upto_region 5 with fail
        clear cc
        refine wp_region_ext (by kernel_rfl) (by kernel_rfl) ?_
        repeat (go_big_quiet_step ((rename_i x5; have h5 := x5.low; first
          | (go_at_call 10; exact ext_of x5 (CO.out x5)))))
        refine wpQuiet_nil ?_
        intro _ hw'
        obtain ⟨x9, hw''⟩ := hw'
        subst hw''
        go_wp2_with fail
        go_roundw
        case rel => exact ⟨k + 1, by omega, by go_num, HCL.out x9⟩
        case measure => first | (simp [kOf]; done) | (simp [kOf]; omega)
      · have hpx := hpk hkd
        have hkx : x.knd ≠ 0 := by rw [hpx] at hkd; exact hkd
        have hxi : x.idx = (j : Int) + 1 := by rw [hpx] at hpi; exact hpi
        have kp2 : ∀ z : Ext wr, z.wd.cell? ⟨b, off + k * 3 + 2, none⟩ = some (.int .i64 x.knd) := fun z => (((HCL.out z).cell (p := ⟨b, off + k * 3 + 2, none⟩) hbb).trans (hcell k p hp 2 _ rfl)).trans (by rw [hpx]; rfl)
        have kp1 : ∀ z : Ext wr, z.wd.cell? ⟨b, off + k * 3 + 1, none⟩ = some (.int .i64 x.trm) := fun z => (((HCL.out z).cell (p := ⟨b, off + k * 3 + 1, none⟩) hbb).trans (hcell k p hp 1 _ rfl)).trans (by rw [hpx]; rfl)
        have kx0' : ∀ z : Ext wr, z.wd.cell? ⟨b2, off2 + j * 4, none⟩ = some (.int .i64 ((j : Int) + 1)) := fun z => (kx0 z).trans (by rw [hxi])
        have CO' := Lib.hid (show ∀ z : Ext wr, Calls Tryd.prog 10 #[.agg #[.int .i64 ((j : Int) + 1), .int .i64 x.trm, .int .i64 x.knd, .slice x.ba x.bd.length x.bc]] z.wd fun e w' => e = .returned (.agg #[.int .i64 ((j : Int) + 1), .int .i64 x.trm, .int .i64 x.knd]) ∧ Below z.wd.heap.size z.wd w' from fun z => by have h := CO.out z; rw [hxi] at h; exact h)
        have e9 : (x.knd != 0) = true := by simpa using hkx
        clear hcell hcell2 hp hx hkd hpi hpk hjl hpx hkx kx0 hxi CO
        go_upto_region 5 with fail
        clear cc
        refine wp_region_ext (by kernel_rfl) (by kernel_rfl) ?_
        repeat (go_big_quiet_step ((rename_i x5; have h5 := x5.low; first
          | (go_at_call 10; exact ext_of x5 (CO'.out x5)))))
        refine wpQuiet_nil ?_
        intro _ hw'
        obtain ⟨x9, hw''⟩ := hw'
        subst hw''
        go_wp2_with fail
        go_roundw
        case rel => exact ⟨k + 1, by omega, by go_num, HCL.out x9⟩
        case measure => first | (simp [kOf]; done) | (simp [kOf]; omega)
    · have d0 : decide ((k : Int) < (rot.length : Int)) = false := decide_eq_false (by omega)
      go_wp2_with fail
      go_ret
      exact ⟨rfl, HB.out⟩
end Go.Proofs.YtglkgmijhdkhpaaDoor
