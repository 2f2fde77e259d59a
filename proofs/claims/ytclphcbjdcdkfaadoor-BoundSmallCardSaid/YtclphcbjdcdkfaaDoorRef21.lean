/-
  limpetref21.Majority, Of: contracts.
-/
import Derived.Test.YtclphcbjdcdkfaaDoorKitInts
import Derived.Test.YtclphcbjdcdkfaaDoorBoundOf
import Derived.Test.YtclphcbjdcdkfaaDoorExt
import Derived.Test.YtclphcbjdcdkfaaDoorMatchMath
import Derived.Deep.DeepCutAuto
set_option linter.unusedVariables false
set_option linter.unusedSimpArgs false
namespace Go.Proofs.YtclphcbjdcdkfaaDoor
open Go.RowKit

def wantG (l : List Int) (x : Int) (b : Option Int) : Bool := majG l x && (match b with | none => true | some y => decide (y < x))
theorem bestG_want {l : List Int} {k : Nat} {x : Int} (hx : l[k]? = some x) (b : Option Int) : bestG l (l.drop k) b = bestG l (l.drop (k + 1)) (if wantG l x b = true then some x else b) := by
  rw [bestG_drop hx b]
  congr 1
  cases b with
  | none => simp [wantG]
  | some y => simp [wantG]
set_option maxRecDepth 100000 in
set_option maxHeartbeats 4000000 in
theorem rMajority (l : List Int) (v : Value) (w : World) (h : Sl 1 i64Row w.heap.size w v l) (hn : l.length ≤ 1000000) :
    Calls Tryd.prog 25 #[v] w fun e w' => e = .returned (.int .i64 (medI l)) ∧ Below w.heap.size w w' := by
  obtain ⟨A, cap, rfl, -⟩ := id h
  have HL := Lib.hid h
  clear h
  go_enter Tryd.func25, Tryd.ntmps25
  go_wp2_with fail
  go_loopw [3, 4, 5] (fun be so i wr => ∃ (k : Nat) (b : Option Int), k ≤ l.length ∧ i = .int .i64 k ∧ be = .int .i64 (b.getD 0) ∧ so = .bool b.isSome ∧ bestG l (l.drop k) b = bestG l l none ∧ Below w.heap.size w wr) (fun _ _ i _ => l.length - (intOf i).toNat)
  case atStart => exact ⟨0, none, by omega, rfl, rfl, rfl, by rw [List.drop_zero], Below.refl _ _⟩
  case round =>
    obtain ⟨k, b, hk, rfl, rfl, rfl, hbest, hB⟩ := hrel
    have HB := Lib.hid hB
    have HE := Lib.hid hbest
    clear hB hbest
    by_cases hlt : k < l.length
    · obtain ⟨bk, off, cap3, e3, hlc3, hcm3, hb3, hcell⟩ := HL.out.cellAt (by intro h; subst h; simp at hlt)
      simp only [Value.slice.injEq] at e3
      obtain ⟨rfl, -, rfl⟩ := e3
      obtain ⟨x, hx⟩ : ∃ x, l[k]? = some x := ⟨_, List.getElem?_eq_getElem hlt⟩
      have HX := Lib.hid hx
      have HC : Hid (∀ W, Below w.heap.size w W → ∀ j y, l[j]? = some y → W.cell? ⟨bk, off + j, none⟩ = some (.int .i64 y)) := fun W q j y hy => (q.cell (p := ⟨bk, off + j, none⟩) hb3).trans (by simpa using hcell j y hy 0 _ rfl)
      have i0 : (0 : Int) ≤ (k : Int) := by omega
      have i1 : (k : Int) < (l.length : Int) := by omega
      have d0 : decide ((k : Int) < (l.length : Int)) = true := decide_eq_true i1
      have d0' : decide (k < l.length) = true := decide_eq_true hlt
      clear hcell hx
      go_wp2_with fail
      go_loopw [6, 7] (fun n j wx => ∃ (q : Nat), q ≤ l.length ∧ j = .int .i64 q ∧ n = .int .i64 (cntG (l.take q) x) ∧ Below w.heap.size w wx) (fun _ j _ => l.length - (intOf j).toNat)
      case atStart => exact ⟨0, by omega, rfl, by simp [cntG], HB.out⟩
      case round =>
        obtain ⟨q, hq, rfl, rfl, hB2⟩ := hrel
        have HB2 := Lib.hid hB2
        have hcl := cntG_le (l.take q) x
        rw [List.length_take, Nat.min_eq_left hq] at hcl
        obtain ⟨cn, hcn⟩ : ∃ cn, cntG (l.take q) x = cn := ⟨_, rfl⟩
        rw [hcn] at hcl ⊢
        have HCN := Lib.hid hcn
        clear hB2 hcn
        by_cases hlq : q < l.length
        · obtain ⟨y, hy⟩ : ∃ y, l[q]? = some y := ⟨_, List.getElem?_eq_getElem hlq⟩
          have HY := Lib.hid hy
          have j0 : (0 : Int) ≤ (q : Int) := by omega
          have j1 : (q : Int) < (l.length : Int) := by omega
          have e0 : decide ((q : Int) < (l.length : Int)) = true := decide_eq_true j1
          have e0' : decide (q < l.length) = true := decide_eq_true hlq
          have cq := HC.out _ HB2.out q y hy
          have ck := HC.out _ HB2.out k x HX.out
          have w1 : wrap64 ((cn : Int) + 1) = (cn : Int) + 1 := by unfold wrap64; omega
          clear hy
          by_cases hc : x ≤ y
          · have dc : decide (x ≤ y) = true := decide_eq_true hc
            go_wp2_with fail
            go_quiet (fail)
            go_wp2_with fail
            go_roundw
            case rel => exact ⟨q + 1, by omega, by go_num, by rw [cntG_take HY.out, if_pos (by omega), HCN.out]; go_num, by first | exact HB2.out | exact below_drewN HB2.out _ | exact HB2.out.drew⟩
            case measure => simp [intOf]; omega
          · have dc : decide (x ≤ y) = false := decide_eq_false hc
            go_wp2_with fail
            go_quiet (fail)
            go_wp2_with fail
            go_roundw
            case rel => exact ⟨q + 1, by omega, by go_num, by rw [cntG_take HY.out, if_neg (by omega), HCN.out]; rfl, by first | exact HB2.out | exact below_drewN HB2.out _ | exact HB2.out.drew⟩
            case measure => simp [intOf]; omega
        · have hql : q = l.length := by omega
          have e0 : decide ((q : Int) < (l.length : Int)) = false := decide_eq_false (by omega)
          have e0' : decide (q < l.length) = false := decide_eq_false hlq
          have hcn : cntG l x = cn := by have := HCN.out; rw [hql, List.take_length] at this; exact this
          have ck := HC.out _ HB2.out k x HX.out
          have w1 : wrap64 ((l.length : Int) - (cn : Int)) = (l.length : Int) - (cn : Int) := by unfold wrap64; omega
          by_cases hm : l.length - cn < cn
          · have hmG : majG l x = true := by unfold majG; rw [hcn]; exact decide_eq_true hm
            have dm : decide ((l.length : Int) - (cn : Int) < (cn : Int)) = true := decide_eq_true (by omega)
            cases b with
            | none =>
              have hw : wantG l x none = true := by unfold wantG; rw [hmG]; rfl
              have HW := Lib.hid hw
              clear hw hcn hql hmG
              go_wp2_with fail
              go_roundw
              case rel => exact ⟨k + 1, some x, by omega, by go_num, rfl, rfl, by rw [← HE.out, bestG_want HX.out, if_pos HW.out], HB2.out⟩
              case measure => simp [intOf]; omega
            | some z =>
              by_cases hz : z < x
              · have hw : wantG l x (some z) = true := by unfold wantG; rw [hmG]; simpa using hz
                have HW := Lib.hid hw
                have dz : decide (z < x) = true := decide_eq_true hz
                clear hw hcn hql hmG
                go_wp2_with fail
                go_roundw
                case rel => exact ⟨k + 1, some x, by omega, by go_num, rfl, rfl, by rw [← HE.out, bestG_want HX.out, if_pos HW.out], HB2.out⟩
                case measure => simp [intOf]; omega
              · have hw : wantG l x (some z) = false := by unfold wantG; rw [hmG]; simpa using hz
                have HW := Lib.hid hw
                have dz : decide (z < x) = false := decide_eq_false hz
                clear hw hcn hql hmG
                go_wp2_with fail
                go_roundw
                case rel => exact ⟨k + 1, some z, by omega, by go_num, rfl, rfl, by rw [← HE.out, bestG_want HX.out, if_neg (by rw [HW.out]; simp)], HB2.out⟩
                case measure => simp [intOf]; omega
          · have hmG : majG l x = false := by unfold majG; rw [hcn]; exact decide_eq_false hm
            have dm : decide ((l.length : Int) - (cn : Int) < (cn : Int)) = false := decide_eq_false (by omega)
            have hw : wantG l x b = false := by unfold wantG; rw [hmG]; rfl
            have HW := Lib.hid hw
            clear hw hcn hql hmG
            go_wp2_with fail
            go_roundw
            case rel => exact ⟨k + 1, b, by omega, by go_num, rfl, rfl, by rw [← HE.out, bestG_want HX.out, if_neg (by rw [HW.out]; simp)], HB2.out⟩
            case measure => simp [intOf]; omega
    · have d0 : decide ((k : Int) < (l.length : Int)) = false := decide_eq_false (by omega)
      have d0' : decide (k < l.length) = false := decide_eq_false hlt
      have hkl : k = l.length := by omega
      have e : b.getD 0 = medI l := best_end (by have := HE.out; rw [hkl] at this; exact this)
      have HEE := Lib.hid e
      clear e hkl
      go_wp2_with fail
      go_ret
      exact ⟨by rw [HEE.out]; rfl, HB.out⟩

set_option maxRecDepth 100000 in
set_option maxHeartbeats 4000000 in
theorem rOf (c t : Int) (a : Idt) (l : List Int) (v : Value) (w : World) (h : Sl 1 i64Row w.heap.size w v l) (hn : l.length ≤ 1000000) :
    Calls Tryd.prog 27 #[.int .i64 c, .int .i64 t, .agg #[.int .i64 a.idx, .int .i64 a.trm, .int .i64 a.knd], v] w fun e w' => e = .returned (.int .i64 (ofI c t (medI l) a)) ∧ Below w.heap.size w w' := by
  have HL := Lib.hid h
  obtain ⟨n, hnn⟩ : ∃ n, medI l = n := ⟨_, rfl⟩
  have CM := Lib.hid (fun (W : World) (q : Below w.heap.size w W) => (rMajority l v W (HL.out.later q) hn))
  rw [hnn] at CM ⊢
  clear h hnn
  obtain ⟨A, cap, rfl, -⟩ := id HL.out
  have X0 := Box.new w #[.int .i64 a.idx, .int .i64 a.trm, .int .i64 a.knd] 24
  have HX0 := Lib.hid X0
  clear X0
  by_cases h1 : n ≤ c
  · have e : ofI c t n a = c := by unfold ofI; rw [if_pos h1]
    rw [e]
    have d1 : decide (c < n) = false := decide_eq_false (by omega)
    clear e
    go_enter Tryd.func27, Tryd.ntmps27
    go_wp2_with (go_at_call 25; refine (CM.out _ (below_new _ _)).mono ?_; rintro e w2 ⟨rfl, hb2⟩; obtain ⟨k2, f2, z2⟩ := (HX0.out.later hb2).facts)
    go_ret
    exact ⟨rfl, below_call (below_new _ _) hb2⟩
  · have d1 : decide (c < n) = true := decide_eq_true (by omega)
    by_cases h2 : a.idx = n
    · have d2 : (a.idx == n) = true := by simpa using h2
      by_cases h3 : a.trm = t
      · have d3 : (a.trm == t) = true := by simpa using h3
        have e : ofI c t n a = n := by unfold ofI; rw [if_neg h1, if_neg (fun h => h h2), if_neg (fun h => h h3)]
        rw [e]
        clear e h2 h3
        go_enter Tryd.func27, Tryd.ntmps27
        go_wp2_with (go_at_call 25; refine (CM.out _ (below_new _ _)).mono ?_; rintro e w2 ⟨rfl, hb2⟩; obtain ⟨k2, f2, z2⟩ := (HX0.out.later hb2).facts)
        go_ret
        exact ⟨rfl, below_call (below_new _ _) hb2⟩
      · have d3 : (a.trm == t) = false := by simpa using h3
        have e : ofI c t n a = c := by unfold ofI; rw [if_neg h1, if_neg (fun h => h h2), if_pos h3]
        rw [e]
        clear e h2 h3
        go_enter Tryd.func27, Tryd.ntmps27
        go_wp2_with (go_at_call 25; refine (CM.out _ (below_new _ _)).mono ?_; rintro e w2 ⟨rfl, hb2⟩; obtain ⟨k2, f2, z2⟩ := (HX0.out.later hb2).facts)
        go_ret
        exact ⟨rfl, below_call (below_new _ _) hb2⟩
    · have d2 : (a.idx == n) = false := by simpa using h2
      have e : ofI c t n a = c := by unfold ofI; rw [if_neg h1, if_pos h2]
      rw [e]
      clear e h2
      go_enter Tryd.func27, Tryd.ntmps27
      go_wp2_with (go_at_call 25; refine (CM.out _ (below_new _ _)).mono ?_; rintro e w2 ⟨rfl, hb2⟩; obtain ⟨k2, f2, z2⟩ := (HX0.out.later hb2).facts)
      go_ret
      exact ⟨rfl, below_call (below_new _ _) hb2⟩
end Go.Proofs.YtclphcbjdcdkfaaDoor
