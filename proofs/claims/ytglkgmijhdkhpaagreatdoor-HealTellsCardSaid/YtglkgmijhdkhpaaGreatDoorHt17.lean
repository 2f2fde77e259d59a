/-
  slices.Clone, IndexFunc, DeleteFunc at identities: contracts.
-/
import Derived.Test.YtglkgmijhdkhpaaGreatDoorHt16
import Derived.Test.YtglkgmijhdkhpaaGreatDoorHt6
import Derived.Test.YtglkgmijhdkhpaaGreatDoorHt4
set_option linter.unusedVariables false
set_option linter.unusedSimpArgs false
namespace Go.Proofs.YtglkgmijhdkhpaaGreatDoor
open Go.RowKit

theorem idtInfo : (Tryz.prog.info? 42).map (fun i => (i.zero, i.size, i.bytes)) = some (some (.agg #[.int .i64 0, .int .i64 0, .int .i64 0]), 3, 24) := by kernel_rfl
theorem idtZero : ∀ w, (zeroValue 42).run Tryz.prog w = .ok (.agg #[.int .i64 0, .int .i64 0, .int .i64 0]) w := fun w => by kernel_rfl
theorem idtNil : ∀ (w : World) (a : Option Addr) (n c n' c' : Nat), (binOp .eql 22 (.slice a n c) (.slice none n' c')).run Tryz.prog w = .ok (.bool a.isNone) w := fun w a n c n' c' => Lib.run_eql_slice_nil w _ _ a n c n' c' Tryz.underlying22
def kOf : Value → Int | .int _ q => q | _ => 0
set_option maxHeartbeats 1000000 in
theorem idtClone (l : List Idt) (v : Value) (w : World) (h : Sl 3 idRow w.heap.size w v l) (hn : l.length ≤ 1000000) :
    Calls Tryz.prog 58 #[v] w fun e w' => ∃ v', e = .returned v' ∧ Own 3 idRow 42 w.heap.size w' v' l ∧ Below w.heap.size w w' := by
  obtain ⟨A, cap, rfl, hlc, hcm, hN, hA⟩ := id h
  have HH := Lib.hid h
  have q23 := idtNil
  cases A with
  | none =>
    have hc : cap = 0 := hN rfl
    have h0 : l = [] := List.eq_nil_of_length_eq_zero (by omega)
    subst h0; subst hc
    clear h hA hN
    go_enter Tryz.func58, Tryz.ntmps58
    go_wp2_with fail
    go_ret
    exact ⟨_, rfl, Own.nil_ _ _ _ _ _, Below.refl _ _⟩
  | some ad =>
    clear h hA hN hlc hcm
    go_enter Tryz.func58, Tryz.ntmps58
    go_wp2_with (at_builtin; refine wpList_append_all _ rfl (.tmp 5) (.tmp 6) 22 rfl w.heap.size 42 _ 3 24 Tryz.underlying22 idtInfo rfl (Nat.succ_pos 2) idRow idRow_length idRow_one [] _ rfl (Own.made 3 idRow 42 w) l w.heap.size _ (HH.out.below (below_new _ _)) rfl (by unfold maxLen; simp; omega) (by simp; omega) (by simp) ?_; intro v' w' h1 h2 h3 h4 h5; have HO := Lib.hid h1; have HB2 := Lib.hid ((below_new w (.cells #[] 42)).trans h2); clear h1 h2 h3 h4 h5)
    go_ret
    exact ⟨_, rfl, by have h := HO.out; rwa [List.nil_append] at h, HB2.out⟩

/-- Between two rounds of a deletion. -/
structure DelP (keep : Idt → Bool) (l L : List Idt) (n k : Nat) : Prop where
  len : L.length = l.length
  head : L.take n = (l.take k).filter keep
  rest : L.drop k = l.drop k
  lt : n < k ∧ k ≤ l.length ∧ ((l.take k).filter keep).length = n
section
variable {keep : Idt → Bool} {l L : List Idt} {n k : Nat} {x : Idt}
theorem delP_snoc (hx : l[k]? = some x) : (l.take (k + 1)).filter keep = if keep x then (l.take k).filter keep ++ [x] else (l.take k).filter keep := by
  rw [List.take_add_one, hx, Option.toList_some, List.filter_append]
  cases h : keep x <;> simp [h]
theorem DelP.begin_ (h : NoP (fun x => !keep x) l k) (hk : l[k]? = some x) (hx : keep x = false) : DelP keep l l k (k + 1) := by
  have hlt := (List.getElem?_eq_some_iff.1 hk).1
  have e0 : (l.take k).filter keep = l.take k := by rw [List.filter_eq_self]; intro y hy; simpa using h y hy
  have e : (l.take (k + 1)).filter keep = l.take k := by rw [delP_snoc hk, hx]; simpa using e0
  exact ⟨rfl, e.symm, rfl, by omega, by omega, by rw [e, List.length_take]; omega⟩
theorem DelP.skip (h : DelP keep l L n k) (hx : l[k]? = some x) (he : keep x = false) : DelP keep l L n (k + 1) := by
  have hlt := (List.getElem?_eq_some_iff.1 hx).1
  have e : (l.take (k + 1)).filter keep = (l.take k).filter keep := by rw [delP_snoc hx, he]; rfl
  have hl := h.lt
  refine ⟨h.len, by rw [e, h.head], ?_, by omega, by omega, by rw [e]; exact hl.2.2⟩
  rw [← List.drop_drop, h.rest, List.drop_drop]
theorem DelP.take_ (h : DelP keep l L n k) (hx : l[k]? = some x) (he : keep x = true) : DelP keep l (L.set n x) (n + 1) (k + 1) := by
  have hlt := (List.getElem?_eq_some_iff.1 hx).1
  have e : (l.take (k + 1)).filter keep = (l.take k).filter keep ++ [x] := by rw [delP_snoc hx, he]; rfl
  have hl := h.lt
  have hll := h.len
  refine ⟨by rw [List.length_set, h.len], ?_, ?_, by omega, by omega, by rw [e, List.length_append, hl.2.2]; rfl⟩
  · rw [e, ← h.head, List.take_add_one, List.getElem?_set_self (by omega), List.take_set_of_le (Nat.le_refl _)]; rfl
  · rw [List.drop_set_of_lt (by omega), ← List.drop_drop, h.rest, List.drop_drop]
theorem DelP.at_ (h : DelP keep l L n k) : L[k]? = l[k]? := by
  have := congrArg (fun z => z[0]?) h.rest
  simpa using this
end
set_option maxHeartbeats 1000000 in
theorem wantsNot (x : Idt) (w : World) : Calls Tryz.prog 59 #[.agg #[.int .i64 x.idx, .int .i64 x.trm, .int .i64 x.knd]] w fun e w' => e = .returned (.bool (!knownI x)) ∧ Below w.heap.size w w' := by
  have HB := Lib.hid (below_new w (.cells #[.int .i64 x.idx, .int .i64 x.trm, .int .i64 x.knd] 42))
  have HC := Lib.hid (healKnown x)
  obtain ⟨b, hb⟩ : ∃ b, knownI x = b := ⟨_, rfl⟩
  rw [hb] at HC ⊢
  clear hb
  go_enter Tryz.func59, Tryz.ntmps59
  go_wp2_with (go_at_call 60; (with_reducible refine (HC.out _).mono ?_); rintro e w2 ⟨rfl, hb2⟩)
  go_ret
  exact ⟨rfl, below_call HB.out hb2⟩

set_option maxHeartbeats 1000000 in
theorem idtDelIndex  (p : Idt → Bool) (l : List Idt) (v : Value) (w : World) (h : Sl 3 idRow w.heap.size w v l) (hcl : ∀ x ∈ l, ∀ W, Below w.heap.size w W → Calls Tryz.prog 59 #[.agg #[.int .i64 x.idx, .int .i64 x.trm, .int .i64 x.knd]] W fun e W' => e = .returned (.bool (p x)) ∧ Below W.heap.size W W') :
    Calls Tryz.prog 96 #[v, .func (.func 59) #[] #[]] w fun e w' => (∃ r : Int, e = .returned (.int .i64 r) ∧ FndPost p l r) ∧ Below w.heap.size w w' := by
  obtain ⟨A, cap, rfl, hlc, hcm, -, hA⟩ := h
  have hn : l.length ≤ 9223372036854775807 := by unfold maxLen at hcm; omega
  have HA := Lib.hid hA
  have HC := Lib.hid hcl
  clear hcm hA hcl
  go_enter Tryz.func96, Tryz.ntmps96
  go_wp2_with fail
  go_loopw [4, 5, 8] (fun _ _ j wr => ∃ k : Nat, k ≤ l.length ∧ j = .int .i64 (k : Int) ∧ NoP p l k ∧ Below w.heap.size w wr) (fun _ _ j _ => l.length - (kOf j).toNat)
  case atStart => exact ⟨0, by omega, rfl, noP_zero, Below.refl _ _⟩
  case round =>
    obtain ⟨k, hk, rfl, hno, hB⟩ := hrel
    have HNO := Lib.hid hno
    have HB := Lib.hid hB
    have i0 : (0 : Int) ≤ (k : Int) := by omega
    clear hno hB
    by_cases hlt : k < l.length
    · have i1 : (k : Int) < (l.length : Int) := by omega
      have d0 : decide ((k : Int) < (l.length : Int)) = true := decide_eq_true i1
      have d0' : decide (k < l.length) = true := decide_eq_true hlt
      obtain ⟨b, off, rfl, hb, hcell⟩ := HA.out (by intro h; subst h; simp at hlt)
      obtain ⟨x, hx⟩ : ∃ x, l[k]? = some x := ⟨_, List.getElem?_eq_getElem hlt⟩
      have c0 : wr.cell? ⟨b, off + k * 3, none⟩ = some (.int .i64 x.idx) := by simpa using (HB.out.cell (p := ⟨b, off + k * 3 + 0, none⟩) hb).trans (hcell k x hx 0 _ rfl)
      have c1 : wr.cell? ⟨b, off + k * 3 + 1, none⟩ = some (.int .i64 x.trm) := by simpa using (HB.out.cell (p := ⟨b, off + k * 3 + 1, none⟩) hb).trans (hcell k x hx 1 _ rfl)
      have c2 : wr.cell? ⟨b, off + k * 3 + 2, none⟩ = some (.int .i64 x.knd) := by simpa using (HB.out.cell (p := ⟨b, off + k * 3 + 2, none⟩) hb).trans (hcell k x hx 2 _ rfl)
      have HX := Lib.hid hx
      have HCX := Lib.hid (HC.out x (List.mem_of_getElem? hx) wr HB.out)
      clear hcell hx
      cases hp : p x with
      | true =>
        rw [hp] at HCX
        have HP := Lib.hid hp
        clear hp
        go_wp2_with (go_at_call 59; (with_reducible refine HCX.out.mono ?_); rintro e w2 ⟨rfl, hb2⟩)
        go_ret
        exact ⟨⟨_, rfl, fnd_yes HNO.out HX.out HP.out⟩, below_call HB.out hb2⟩
      | false =>
        rw [hp] at HCX
        have HP := Lib.hid hp
        clear hp
        go_wp2_with (go_at_call 59; (with_reducible refine HCX.out.mono ?_); rintro e w2 ⟨rfl, hb2⟩; have HB2 := Lib.hid (below_call HB.out hb2); clear hb2)
        go_roundw
        case rel => exact ⟨k + 1, by omega, by go_num, noP_step HNO.out HX.out HP.out, HB2.out⟩
        case measure => simp [kOf]; omega
    · have d0 : decide ((k : Int) < (l.length : Int)) = false := decide_eq_false (by omega)
      have d0' : decide (k < l.length) = false := decide_eq_false hlt
      have HF := Lib.hid (show NoP p l l.length by have h := HNO.out; rw [show k = l.length by omega] at h; exact h)
      go_wp2_with fail
      go_ret
      exact ⟨⟨_, rfl, fnd_no HF.out⟩, HB.out⟩

theorem Own.set3i {e : TypeId} {base g n c a : Nat} {w : World} {L : List Idt} {x y : Idt} (h : Own 3 idRow e base w (.slice (some ⟨g, 0, none⟩) n c) L) (hx : L[a]? = some x) : Own 3 idRow e base (set3 w g (a * 3) y) (.slice (some ⟨g, 0, none⟩) n c) (L.set a y) ∧ Below base w (set3 w g (a * 3) y) := by
  have hg := (h.block (x := g) rfl).1
  exact ⟨h.writeI hx, below_set (below_set (below_set (Below.refl _ _) hg) hg) hg⟩
set_option maxRecDepth 100000 in
set_option maxHeartbeats 8000000 in
theorem idtDelete (base : Nat) (l : List Idt) (v : Value) (w : World) (h : Own 3 idRow 42 base w v l) (hn : l.length ≤ 100000) (hB0 : base ≤ w.heap.size) :
    Calls Tryz.prog 57 #[v, .func (.func 59) #[] #[]] w fun e w' => ∃ v', e = .returned v' ∧ Own 3 idRow 42 base w' v' (l.filter knownI) ∧ Below base w w' := by
  · have CI := Lib.hid (idtDelIndex (fun x => !knownI x) l v w (h.sl idRow_length) (fun x hx W hb => wantsNot x W))
    have HO := Lib.hid h
    obtain ⟨A, c, hv⟩ := h.len
    have hform : v = .slice none 0 0 ∨ ∃ g, v = .slice (some ⟨g, 0, none⟩) l.length c := by
      rcases h.2 with ⟨h1, _⟩ | ⟨g, c', cur, h1, _⟩
      · exact .inl h1
      · exact .inr ⟨g, by rw [hv] at h1; simp only [Value.slice.injEq] at h1; rw [hv, h1.1]⟩
    have hlc : l ≠ [] → l.length ≤ c ∧ c ≤ maxLen := fun hl => by
      obtain ⟨A', c', h1, h2, h3, -⟩ := h.sl idRow_length
      rw [hv] at h1
      simp only [Value.slice.injEq] at h1
      omega
    subst hv
    clear h
    go_enter Tryz.func57, Tryz.ntmps57
    go_upto_region 2 with (go_at_call 96; (with_reducible refine CI.out.mono ?_); rintro e w2 ⟨⟨r, rfl, hq⟩, hb2⟩; have HB2 := Lib.hid hb2; clear hb2)
    rcases hq with ⟨rfl, hq⟩ | ⟨k0, x0, rfl, hk, hpx, -, hq⟩
    · have HF := Lib.hid (show l.filter knownI = l by
        rw [List.filter_eq_self]
        intro y hy
        have := List.find?_eq_none.1 hq y hy
        simpa using this)
      clear hq hform hlc
      go_wp2_with fail
      go_ret
      exact ⟨_, rfl, by rw [HF.out]; exact HO.out.later HB2.out, HB2.out.mono hB0⟩
    · have hkl := (List.getElem?_eq_some_iff.1 hk).1
      have hl0 : l ≠ [] := by intro h; subst h; simp at hkl
      obtain ⟨g, hg⟩ : ∃ g, A = some ⟨g, 0, none⟩ := by
        rcases hform with h | ⟨g, h⟩
        · simp only [Value.slice.injEq] at h; exact absurd (List.eq_nil_of_length_eq_zero h.2.1) hl0
        · simp only [Value.slice.injEq] at h; exact ⟨g, h.1⟩
      subst hg
      obtain ⟨hlc1, hlc2⟩ := hlc hl0
      have hcm : c ≤ 9223372036854775807 := by unfold maxLen at hlc2; omega
      have HD := Lib.hid (DelP.begin_ (keep := knownI) hq hk (by simpa using hpx))
      have hgb := (HO.out.block (x := g) rfl)
      have HO2 := Lib.hid (HO.out.later HB2.out)
      have HBB := Lib.hid (HB2.out.mono hB0)
      have e1 : ((k0 : Int) == -1) = false := by simp
      have hk2 : (k0 : Int) < 100000 := by omega
      have hz2 : base ≤ w2.heap.size := by have := HB2.out.size; omega
      clear hq hk hpx hform hlc hlc2
      go_wp2_with fail
      clear e1
      go_loopw [5, 6, 7] (fun i j _ wr => ∃ (a k : Nat) (L : List Idt), i = .int .i64 (a : Int) ∧ j = .int .i64 (k : Int) ∧ DelP knownI l L a k ∧ Own 3 idRow 42 base wr (.slice (some ⟨g, 0, none⟩) l.length c) L ∧ Below base w wr) (fun _ j _ _ => l.length - (kOf j).toNat)
      case atStart => exact ⟨k0, k0 + 1, l, rfl, by go_num, HD.out, HO2.out, HBB.out⟩
      case round =>
        clear HD HO2 HBB
        obtain ⟨a, k, L, rfl, rfl, hD, hown, hb⟩ := hrel
        have HDD := Lib.hid hD
        have HOW := Lib.hid hown
        have HBB := Lib.hid hb
        have hak := hD.lt
        have hak1 := hak.1
        have hak2 := hak.2.1
        have hzr : base ≤ wr.heap.size := by have := hb.size; omega
        have hlL := Lib.hid hD.len
        have i0 : (0 : Int) ≤ (k : Int) := by omega
        have i2 : (0 : Int) ≤ (a : Int) := by omega
        clear hD hb hak hown
        by_cases hlt : k < l.length
        · have i1 : (k : Int) < (l.length : Int) := by omega
          have i3 : (a : Int) < (l.length : Int) := by omega
          have d0 : decide ((k : Int) < (l.length : Int)) = true := decide_eq_true i1
          obtain ⟨y, hy⟩ : ∃ y, l[k]? = some y := ⟨_, List.getElem?_eq_getElem hlt⟩
          obtain ⟨z, hz⟩ : ∃ z, L[a]? = some z := ⟨_, List.getElem?_eq_getElem (by have := hlL.out; omega)⟩
          obtain ⟨c0, c1, c2⟩ := HOW.out.row3 (HDD.out.at_.trans hy)
          have HY := Lib.hid hy
          have HZ := Lib.hid hz
          have HBX := Lib.hid (Box.new wr #[.int .i64 y.idx, .int .i64 y.trm, .int .i64 y.knd] 42)
          have HBN := Lib.hid (below_new wr (.cells #[.int .i64 y.idx, .int .i64 y.trm, .int .i64 y.knd] 42))
          obtain ⟨W1, hW1⟩ : ∃ q, q = wr.alloc (.cells #[.int .i64 y.idx, .int .i64 y.trm, .int .i64 y.knd] 42) := ⟨_, rfl⟩
          obtain ⟨gx, hgx⟩ : ∃ q, q = wr.heap.size := ⟨_, rfl⟩
          have HE := Lib.hid hW1
          have HE2 := Lib.hid hgx
          rw [← hW1] at HBX HBN
          rw [← hgx] at HBX
          have HOX := Lib.hid (HOW.out.later HBN.out)
          have hgg := (HOW.out.block (x := g) rfl)
          obtain ⟨b0, b1, b2⟩ := HBX.out.facts
          clear hy hz hW1 hgx
          cases hkn : knownI y with
          | true =>
            have HKN := Lib.hid hkn
            have CW : Hid (Calls Tryz.prog 59 #[.agg #[.int .i64 y.idx, .int .i64 y.trm, .int .i64 y.knd]] W1 fun e w' => e = .returned (.bool false) ∧ Below W1.heap.size W1 w') := by have h := wantsNot y W1; rw [hkn] at h; exact Lib.hid h
            clear hkn
            go_upto_region 8 with fail
            rw [← HE.out, ← HE2.out]
            clear c0 c1 c2
            go_wp2_with (go_at_call 59; (with_reducible refine CW.out.mono ?_); rintro e w5 ⟨rfl, hb5⟩; have HO5 := Lib.hid (HOX.out.later hb5); have HX5 := Lib.hid (HBX.out.later hb5); have HB5 := Lib.hid (HBB.out.trans ((below_call HBN.out hb5).mono hzr)); clear b0 b1 b2 hb5; obtain ⟨b0, b1, b2⟩ := HX5.out.facts; obtain ⟨f0, z0⟩ := HO5.out.free3; obtain ⟨c0, c1, c2⟩ := HO5.out.row3 HZ.out; have HS5 := Lib.hid (HO5.out.set3i (y := y) HZ.out))
            go_roundw
            case rel => exact ⟨a + 1, k + 1, L.set a y, by go_num, by go_num, HDD.out.take_ HY.out HKN.out, HS5.out.1, HB5.out.trans HS5.out.2⟩
            case measure => first | (simp [kOf]; done) | (simp [kOf]; omega)
          | false =>
            have HKN := Lib.hid hkn
            have CW : Hid (Calls Tryz.prog 59 #[.agg #[.int .i64 y.idx, .int .i64 y.trm, .int .i64 y.knd]] W1 fun e w' => e = .returned (.bool true) ∧ Below W1.heap.size W1 w') := by have h := wantsNot y W1; rw [hkn] at h; exact Lib.hid h
            clear hkn
            go_upto_region 8 with fail
            rw [← HE.out, ← HE2.out]
            clear c0 c1 c2
            go_wp2_with (go_at_call 59; (with_reducible refine CW.out.mono ?_); rintro e w5 ⟨rfl, hb5⟩; have HO5 := Lib.hid (HOX.out.later hb5); have HB5 := Lib.hid (HBB.out.trans ((below_call HBN.out hb5).mono hzr)); clear b0 b1 b2 hb5)
            go_roundw
            case rel => exact ⟨a, k + 1, L, rfl, by go_num, HDD.out.skip HY.out HKN.out, HO5.out, HB5.out⟩
            case measure => first | (simp [kOf]; done) | (simp [kOf]; omega)
        · have d0 : decide ((k : Int) < (l.length : Int)) = false := decide_eq_false (by omega)
          have hkl2 : k = l.length := by omega
          have hcn2 : a < l.length := by omega
          have hca : ¬ c = a := by omega
          obtain ⟨w9, hcl9, ho9, hb9⟩ := own_clear (P := Tryz.prog) (ty := 0) (t := 22) (z := .agg #[.int .i64 0, .int .i64 0, .int .i64 0]) (i := a) idRow_length Tryz.underlying22 idtZero rfl (by simp [Value.cells, Value.oneCell']) HOW.out hcn2
          have HF := Lib.hid (show L.take a = l.filter knownI by rw [HDD.out.head, hkl2, List.take_length])
          have HFL := Lib.hid (show (l.filter knownI).length = a by rw [← HF.out, List.length_take, hlL.out]; omega)
          have HO9 := Lib.hid ho9
          have HB9 := Lib.hid (HBB.out.trans hb9)
          have i3 : (a : Int) ≤ (l.length : Int) := by omega
          have i4 : (a : Int) ≤ (c : Int) := by omega
          clear ho9 hb9
          go_wp2_with fail
          go_ret
          exact ⟨_, rfl, by rw [← HF.out]; exact HO9.out, HB9.out⟩
end Go.Proofs.YtglkgmijhdkhpaaGreatDoor
