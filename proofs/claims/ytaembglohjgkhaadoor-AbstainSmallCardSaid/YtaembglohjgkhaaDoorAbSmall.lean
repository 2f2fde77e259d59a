/-
  AbstainSmall: true. Condition: errors.errorType holds its value.
-/
import Derived.Test.YtaembglohjgkhaaDoorAbTells
import Derived.Test.YtaembglohjgkhaaDoorAppend
import Derived.Test.YtaembglohjgkhaaDoorExt
import Derived.Deep.RegionHeld3
import Derived.Deep.DeepCutAuto
set_option linter.unusedVariables false
set_option linter.unusedSimpArgs false
namespace Go.Proofs.YtaembglohjgkhaaDoor
open Go.RowKit

theorem Box.at_ (w : World) {n : Nat} {cs : Array Value} {t : TypeId} (h : n = w.heap.size) : Box (w.alloc (.cells cs t)) n cs t := by subst h; exact Box.new w cs t

theorem Box.drew_ {w : World} {n : Nat} {cs : Array Value} {t : TypeId} (h : Box w n cs t) : Box w.drew n cs t := h
theorem Box.set4 {w : World} {n : Nat} {a b c d : Value} {t : TypeId} (h : Box w n #[a, b, c, d] t) (x y z u : Value) :
    Box ((((w.setCell ⟨n, 0, none⟩ x).setCell ⟨n, 1, none⟩ y).setCell ⟨n, 2, none⟩ z).setCell ⟨n, 3, none⟩ u) n #[x, y, z, u] t := (((h.set_ 0 x).set_ 1 y).set_ 2 z).set_ 3 u
def numsC : Array Value := #[.int .i64 (-9223372036854775808), .int .i64 (-1), .int .i64 0, .int .i64 1, .int .i64 9223372036854775807]
theorem nums_at {r : Nat} (h : r < 5) : ∃ x : Int, numsC[r]? = some (.int .i64 x) := by
  match r, h with
  | 0, _ => exact ⟨_, rfl⟩
  | 1, _ => exact ⟨_, rfl⟩
  | 2, _ => exact ⟨_, rfl⟩
  | 3, _ => exact ⟨_, rfl⟩
  | 4, _ => exact ⟨_, rfl⟩
/-- Whatever the state, with members 1, 3 and some entries: true. -/
theorem tells_any (lost : Bool) (self : Int) (ms : List Int) (l : List Idt) (Am Ar : Option Addr) (cm cr : Nat) (upto from_ upt : Int) (w : World) (hm : Sl 1 i64Row w.heap.size w (.slice Am ms.length cm) ms) (hl : Sl 3 idRow w.heap.size w (.slice Ar l.length cr) l) (hG : errTypeIs w) (hsm : ms.length + l.length ≤ 500) :
    Calls Tryd.prog 3 #[.agg #[.bool lost, .int .i64 self, .slice Am ms.length cm, .slice Ar l.length cr], .int .i64 upto, .int .i64 from_, .int .i64 upt] w fun e w' => e = .returned (.bool true) ∧ Below w.heap.size w w' :=
  tells_go lost self ms l Am Ar cm cr upto from_ upt w hm hl hG hsm

set_option maxRecDepth 100000 in
set_option maxHeartbeats 4000000 in
theorem small_walk (w : World) (hG : errTypeIs w) :
    Calls Tryd.prog 4 #[] w fun e w' => e = .returned (.bool true) ∧ Below w.heap.size w w' := by
  have HG := Lib.hid hG
  clear hG
  go_enter Tryd.func4, Tryd.ntmps4
  go_wp2_with fail
  go_loopw [1] (fun i wr => ∃ n : Nat, n ≤ 4096 ∧ i = .int .i64 n ∧ Below w.heap.size w wr) (fun i _ => 4096 - (intOf i).toNat)
  case atStart => exact ⟨0, by omega, rfl, Below.refl _ _⟩
  case round =>
    obtain ⟨n, hn, rfl, hB⟩ := hrel
    by_cases hlt : n < 4096
    · have HB := Lib.hid hB
      have hz := hB.size
      have m0 : (n : Int) % 4 < 4 := by omega
      have d0 : decide ((n : Int) < 4096) = true := decide_eq_true (by omega)
      have m1 : (0 : Int) ≤ (n : Int) % 4 := by omega
      obtain ⟨lost, hlo⟩ : ∃ b : Bool, ((n : Int) % 8 == 0) = b := ⟨_, rfl⟩
      clear hB
      obtain ⟨wo, hwo⟩ : ∃ wo : World, wo = wr := ⟨_, rfl⟩
      rw [← hwo] at HB hz
      rw [← hwo]
      clear hwo
      have q1 : Below wo.heap.size wo (wo.alloc (.cells #[.int .i64 1, .int .i64 3] 3)) := below_new _ _
      go_wp2_with fail
      clear hlo
      go_loopw [3, 4] (fun kv i wx => ∃ (j : Nat) (K : Int) (l : List Idt) (A : Option Addr) (nn c : Nat), j ≤ 3 ∧ i = .int .i64 j ∧ kv = .int .i64 K ∧ 0 ≤ K ∧ K ≤ 4096 ∧ l.length ≤ j ∧ Own 3 idRow 46 (wo.heap.size + 2) wx (.slice A nn c) l ∧ Box wx (wo.heap.size + 1) #[.bool lost, .int .i64 ((n : Int) % 4), .slice (some ⟨wo.heap.size, 0, none⟩) 2 2, .slice A nn c] 25 ∧ Box wx wo.heap.size #[.int .i64 1, .int .i64 3] 3 ∧ Below wo.heap.size wo wx) (fun _ i _ => 4 - (intOf i).toNat)
      case atStart => exact ⟨0, n, [], none, 0, 0, by omega, rfl, rfl, by omega, by omega, by simp, Own.nil_ _ _ _ _ _, Box.at_ _ (by simp), (Box.new _ _ _).alloc _, below_call (below_new _ _) (below_new _ _)⟩
      case round =>
        clear q1
        obtain ⟨j, K, l, A, nn, c, hj, rfl, rfl, K0, K1, hlen, hown, hbx, hbm, hBx⟩ := hrel
        have hzx := hBx.size
        have hbl := hbx.lt
        obtain ⟨kb, fb, zb⟩ := hbx.facts
        by_cases hjm : (j : Int) < (n : Int) % 4
        · have HO := Lib.hid hown
          have HX := Lib.hid hbx
          have HMb := Lib.hid hbm
          have HBx := Lib.hid hBx
          clear hown hbx hbm hBx
          go_wp2_with (first
            | (at_builtin; refine wpList_append_row _ rfl (.tmp 27) (.tmp 36) _ rfl (wo.heap.size + 2) 46 _ 3 24 Tryd.underlying23 identInfo rfl (Nat.succ_pos 2) idRow idRow_length idRow_one l _ rfl HO.out ⟨3 + K % 5, 0, K / 5 % 6 - 1⟩ _ rfl 46 _ rfl rfl (by omega) (by omega) (by omega) ?_; intro v' w' h1 h2 h3 h4 h5; obtain ⟨A2, n2, c2, rfl⟩ := h1.form; have HX2 := Lib.hid (HX.out.below h2 (by omega)); obtain ⟨kb2, fb2, zb2⟩ := HX2.out.facts; clear h3 h4 h5))
          have HO2 := Lib.hid (h1.set_below (n := wo.heap.size + 1) (i := 3) (u := .slice A2 n2 c2) (by omega))
          have HM2 := Lib.hid ((HMb.out.below h2 (by omega)).far (p := ⟨wo.heap.size + 1, 3, none⟩) (by simp) (.slice A2 n2 c2))
          have HB2 := Lib.hid (below_set (i := 3) (u := .slice A2 n2 c2) (HBx.out.trans (h2.mono (by omega))) (show wo.heap.size ≤ wo.heap.size + 1 by omega))
          have HX3 := Lib.hid (HX2.out.set_ 3 (.slice A2 n2 c2))
          clear h1 h2 kb2 fb2 kb fb
          go_roundw
          case rel => exact ⟨j + 1, K / 7, _, A2, n2, c2, by omega, by go_num, rfl, by omega, by omega, by rw [List.length_append]; simp; omega, HO2.out, HX3.out, HM2.out, HB2.out⟩
          case measure => simp [intOf]; omega
        · have hs := hown.sl idRow_length
          obtain ⟨A0, c0, e0, -⟩ := id hs
          simp only [Value.slice.injEq] at e0
          obtain ⟨rfl, rfl, rfl⟩ := e0
          have HS := Lib.hid hs
          have HMS := Lib.hid (hbm.sl i64Row_length [1, 3] rfl (by unfold maxLen; simp))
          have HBx := Lib.hid (HB.out.trans (hBx.mono hz))
          clear hs hown hbx hbm hBx
          go_wp2_with (go_at_call 3; refine (tells_any lost ((n : Int) % 4) [1, 3] l _ _ 2 c _ _ _ _ HMS.out HS.out (errType_later HG.out HBx.out) (by simp; omega)).mono ?_; rintro e w9 ⟨rfl, hb9⟩)
          go_roundw
          case rel => exact ⟨n + 1, by omega, by go_num, below_call HBx.out hb9⟩
          case measure => simp [intOf]; omega
    · have d9 : decide ((n : Int) < 4096) = false := decide_eq_false (by omega)
      have HB := Lib.hid hB
      have hz := hB.size
      clear hB
      obtain ⟨wo, hwo⟩ : ∃ wo : World, wo = wr := ⟨_, rfl⟩
      rw [← hwo] at HB hz
      rw [← hwo]
      clear hwo
      go_wp2_with fail
      obtain ⟨gn, hgn⟩ : ∃ g, g = wo.heap.size := ⟨_, rfl⟩
      rw [← hgn]
      have HN0 := Lib.hid (show Box (wo.alloc (.cells numsC 3)) gn numsC 3 by rw [hgn]; exact Box.new _ _ _)
      have hgz : w.heap.size ≤ gn := by omega
      clear hgn
      go_loopw [6] (fun i wx => ∃ k : Nat, k ≤ 625 ∧ i = .int .i64 k ∧ Box wx gn numsC 3 ∧ Below w.heap.size w wx) (fun i _ => 625 - (intOf i).toNat)
      case atStart => exact ⟨0, by omega, rfl, HN0.out, below_call HB.out (below_new _ _)⟩
      case round =>
        clear HN0
        obtain ⟨k, hk, rfl, hbn, hBk⟩ := hrel
        by_cases hlk : k < 625
        · have HN := Lib.hid hbn
          have HBk := Lib.hid hBk
          have hbl := hbn.lt
          have hzk := hBk.size
          obtain ⟨r1, e1, l1⟩ : ∃ r : Nat, (k : Int).tmod 5 = (r : Int) ∧ r < 5 := ⟨k % 5, by rw [Int.tmod_eq_emod_of_nonneg (by omega)]; omega, by omega⟩
          obtain ⟨q5, e5, l5⟩ : ∃ r : Nat, (k : Int).tdiv 5 = (r : Int) ∧ r < 125 := ⟨k / 5, by rw [Int.tdiv_eq_ediv_of_nonneg (by omega)]; omega, by omega⟩
          obtain ⟨r2, e2, l2⟩ : ∃ r : Nat, (q5 : Int).tmod 5 = (r : Int) ∧ r < 5 := ⟨q5 % 5, by rw [Int.tmod_eq_emod_of_nonneg (by omega)]; omega, by omega⟩
          have e6 : IntKind.i64.wrap (q5 : Int) = (q5 : Int) := IntWalk.i64_in _ (by omega)
          obtain ⟨x1, hx1⟩ := nums_at l1
          obtain ⟨x2, hx2⟩ := nums_at l2
          have n1 : (0 : Int) ≤ (r1 : Int) := by omega
          have n2 : (0 : Int) ≤ (r2 : Int) := by omega
          have m1 : (r1 : Int) < 5 := by omega
          have m2 : (r2 : Int) < 5 := by omega
          have HF : Hid (∀ w', Below wr.heap.size wr w' → w'.cell? ⟨gn, r1, none⟩ = some (.int .i64 x1) ∧ w'.cell? ⟨gn, r2, none⟩ = some (.int .i64 x2) ∧ Below wr.heap.size wr w') := fun w' q => ⟨(cell_later q ((hbn.cell r1).trans hx1)), (cell_later q ((hbn.cell r2).trans hx2)), q⟩
          have d0 : decide ((k : Int) < 625) = true := decide_eq_true (by omega)
          clear hbn hBk hx1 hx2
          go_upto_region 16 with fail
          go_cut [7] (fun p wx => ∃ gm gr gb, p = .pointer (some ⟨gb, 0, none⟩) ∧ Box wx gb #[.bool false, .int .i64 1, .slice (some ⟨gm, 0, none⟩) 1 1, .slice (some ⟨gr, 0, none⟩) 2 2] 25 ∧ Box wx gm #[.int .i64 1] 3 ∧ Box wx gr #[.int .i64 x1, .int .i64 0, .int .i64 1, .int .i64 x2, .int .i64 0, .int .i64 2] 46 ∧ Below wr.heap.size wr wx)
          case first =>
            go_region_held3 (fun w' => w'.cell? ⟨gn, r1, none⟩ = some (.int .i64 x1) ∧ w'.cell? ⟨gn, r2, none⟩ = some (.int .i64 x2) ∧ Below wr.heap.size wr w')
              (first | (refine HF.out _ ?_; (repeat (first | (refine Below.drew ?_) | (refine Below.alloc ?_ (by first | omega | (simp; omega) | simp) _) | (refine below_set ?_ (by first | omega | (simp; omega) | simp)))); exact Below.refl _ _) | fail)
              (fail)
            all_goals (go_wp2_with fail; go_meet)
            all_goals
              apply Exists.intro
              apply Exists.intro
              apply Exists.intro
              refine ⟨rfl, ?_, ?_, ?_, ?_⟩
              · repeat (first | (with_reducible refine Box.drew_ ?_) | ((with_reducible refine Box.at_ _ ?_); (simp; done)) | (with_reducible refine Box.alloc ?_ _) | (with_reducible refine Box.set4 ?_ _ _ _ _) | ((with_reducible refine Box.far ?_ ?_ _); rotate_left; (simp; done)))
              · repeat (first | (with_reducible refine Box.drew_ ?_) | ((with_reducible refine Box.at_ _ ?_); (simp; done)) | (with_reducible refine Box.alloc ?_ _) | (with_reducible refine Box.set4 ?_ _ _ _ _) | ((with_reducible refine Box.far ?_ ?_ _); rotate_left; (simp; done)))
              · repeat (first | (with_reducible refine Box.drew_ ?_) | ((with_reducible refine Box.at_ _ ?_); (simp; done)) | (with_reducible refine Box.alloc ?_ _) | (with_reducible refine Box.set4 ?_ _ _ _ _) | ((with_reducible refine Box.far ?_ ?_ _); rotate_left; (simp; done)))
              · (repeat (first | (refine Below.drew ?_) | (refine Below.alloc ?_ (by first | omega | (simp; omega) | simp) _) | (refine below_set ?_ (by first | omega | (simp; omega) | simp)))); exact Below.refl _ _
          case rest =>
            obtain ⟨gm, gr, gb, rfl, bb, bm, br, hB2⟩ := hcut
            have HN2 := Lib.hid (HN.out.later hB2)
            have HM2 := Lib.hid (bm.sl i64Row_length [1] rfl (by unfold maxLen; simp))
            have HR2 := Lib.hid (br.sl idRow_length [⟨x1, 0, 1⟩, ⟨x2, 0, 2⟩] rfl (by unfold maxLen; simp))
            have HBk2 := Lib.hid (below_call HBk.out hB2)
            have HG2 := Lib.hid (errType_later HG.out HBk2.out)
            obtain ⟨r3, f3, f3', l3⟩ : ∃ r : Nat, (k : Int) / 25 % 5 = (r : Int) ∧ ((k : Int).tdiv 25).tmod 5 = (r : Int) ∧ r < 5 := ⟨k / 25 % 5, by omega, by rw [Int.tdiv_eq_ediv_of_nonneg (by omega), Int.tmod_eq_emod_of_nonneg (by omega)]; omega, by omega⟩
            obtain ⟨r4, f4, f4', l4⟩ : ∃ r : Nat, (k : Int) / 125 = (r : Int) ∧ (k : Int).tdiv 125 = (r : Int) ∧ r < 5 := ⟨k / 125, by omega, by rw [Int.tdiv_eq_ediv_of_nonneg (by omega)]; omega, by omega⟩
            have f1 : (k : Int) % 5 = (r1 : Int) := by rw [← e1, Int.tmod_eq_emod_of_nonneg (by omega)]
            obtain ⟨x3, hx3⟩ := nums_at l3
            obtain ⟨x4, hx4⟩ := nums_at l4
            obtain ⟨x1', hx1'⟩ := nums_at l1
            have n3 : (0 : Int) ≤ (r3 : Int) := by omega
            have n4 : (0 : Int) ≤ (r4 : Int) := by omega
            have m3 : (r3 : Int) < 5 := by omega
            have m4 : (r4 : Int) < 5 := by omega
            have k1 : ∀ x : Ext wc, x.wd.cell? ⟨gn, r1, none⟩ = some (.int .i64 x1') := fun x => ((HN2.out.later x.low).cell r1).trans hx1'
            have k3 : ∀ x : Ext wc, x.wd.cell? ⟨gn, r3, none⟩ = some (.int .i64 x3) := fun x => ((HN2.out.later x.low).cell r3).trans hx3
            have k4 : ∀ x : Ext wc, x.wd.cell? ⟨gn, r4, none⟩ = some (.int .i64 x4) := fun x => ((HN2.out.later x.low).cell r4).trans hx4
            have cb0 : ∀ x : Ext wc, x.wd.cell? ⟨gb, 0, none⟩ = some (.bool false) := bb.ext 0
            have cb1 : ∀ x : Ext wc, x.wd.cell? ⟨gb, 1, none⟩ = some (.int .i64 1) := bb.ext 1
            have cb2 : ∀ x : Ext wc, x.wd.cell? ⟨gb, 2, none⟩ = some (.slice (some ⟨gm, 0, none⟩) 1 1) := bb.ext 2
            have cb3 : ∀ x : Ext wc, x.wd.cell? ⟨gb, 3, none⟩ = some (.slice (some ⟨gr, 0, none⟩) 2 2) := bb.ext 3
            clear hx1' hx3 hx4 bb bm br hB2 e2 e5 e6 n2 m2
            go_upto_region 17 with fail
            refine wp_region_ext (by kernel_rfl) (by kernel_rfl) ?_
            repeat (go_big_quiet_step ((rename_i x5; have h5 := x5.low; first
              | (go_at_call 3; exact ext_of x5 (tells_any false 1 [1] [⟨x1, 0, 1⟩, ⟨x2, 0, 2⟩] _ _ 1 2 x3 x4 x1' _ (HM2.out.later h5) (HR2.out.later h5) (errType_later HG2.out h5) (by simp))))))
            refine wpQuiet_nil ?_
            intro _ hw'
            obtain ⟨x5, hw''⟩ := hw'
            subst hw''
            have HB5 := Lib.hid (below_call HBk2.out x5.low)
            have HN5 := Lib.hid (HN2.out.later x5.low)
            clear k1 k3 k4 f1 f3 f3' f4 f4' e1 cb0 cb1 cb2 cb3
            go_wp2_with fail
            go_roundw
            case rel => exact ⟨k + 1, by omega, by go_num, HN5.out, HB5.out⟩
            case measure => simp [intOf]; omega
        · have HB6 := Lib.hid hBk
          have HG6 := Lib.hid (errType_later HG.out hBk)
          clear hbn hBk
          go_wp2_with (first
            | (go_at_call 3; refine (tells_any false 0 [] [] none none 0 0 _ _ _ _ (Sl.nil_ _ _ _ _) (Sl.nil_ _ _ _ _) HG6.out (by simp)).mono ?_; rintro e w9 ⟨rfl, hb9⟩)
            | (go_at_call 6; refine (awake _ (errType_later HG6.out hb9)).mono ?_; rintro e w8 ⟨rfl, hb8⟩))
          go_ret
          exact ⟨rfl, below_call HB6.out (below_call hb9 hb8)⟩
end Go.Proofs.YtaembglohjgkhaaDoor
