/-
  group.Of: contract (a loop over slices.Backward).
-/
import Derived.RangeFuncNested
import Derived.RangeFuncBound
import Derived.RangeFuncCalls
import Derived.RangeFuncLeaves
import Derived.Shelf.Abstract
import Derived.Shelf.RegionOpen
import Derived.WalkKit
import Derived.OwnWalkIn
import Derived.TacticsInMore
import Derived.LoopNIn
import Derived.LoopIn
import Derived.Maps.AppendAt
import Derived.Test.YthadfdpdillemaaGreatDoorEnt3
import Derived.Test.YthadfdpdillemaaGreatDoorGroupLogMath
import Derived.Test.YthadfdpdillemaaGreatDoorAppend
import Derived.Test.YthadfdpdillemaaGreatDoorApartMath
set_option linter.unusedVariables false
set_option linter.unusedSimpArgs false
namespace Go.Proofs.YthadfdpdillemaaGreatDoor
open Go.RowKit Go.Shelf

attribute [local go_sem] Oper.semAt_some

theorem cloneInts (l : List Int) (v : Value) (w : World) (h : Sl 1 i64Row w.heap.size w v l) (hn : l.length ≤ 1000000) :
    Calls Tryz.prog 99 #[v] w fun e w' => ∃ A c, e = .returned (.slice A l.length c) ∧ Own 1 i64Row 3 w.heap.size w' (.slice A l.length c) l ∧ Below w.heap.size w w' := by
  obtain ⟨A, cap, rfl, hlc, hcm, hN, hA⟩ := id h
  have HH := Lib.hid h
  have q23 : ∀ (w : World) (a : Option Addr) (n c n' c' : Nat), (binOp .eql 70 (.slice a n c) (.slice none n' c')).run Tryz.prog w = .ok (.bool a.isNone) w := fun w a n c n' c' => Lib.run_eql_slice_nil w _ _ a n c n' c' Tryz.underlying70
  cases A with
  | none =>
    have hc : cap = 0 := hN rfl
    have h0 : l = [] := List.eq_nil_of_length_eq_zero (by omega)
    subst h0; subst hc
    clear h hA hN
    go_enter Tryz.func99, Tryz.ntmps99
    go_wp2_with fail
    go_ret
    exact ⟨none, 0, rfl, Own.nil_ _ _ _ _ _, Below.refl _ _⟩
  | some ad =>
    clear h hA hN hlc hcm
    go_enter Tryz.func99, Tryz.ntmps99
    go_wp2_with (at_builtin; refine wpList_append_all _ rfl (.tmp 5) (.tmp 6) 70 rfl w.heap.size 3 _ 1 8 Tryz.underlying70 intInfo rfl (Nat.succ_pos 0) i64Row i64Row_length i64Row_one [] _ rfl (Own.made 1 i64Row 3 w) l w.heap.size _ (HH.out.below (below_new _ _)) rfl (by unfold maxLen; simp; omega) (by simp; omega) (by simp) ?_; intro v' w' h1 h2 h3 h4 h5; have HO := Lib.hid h1; have HB2 := Lib.hid ((below_new w (.cells #[] 3)).trans h2); clear h2 h3 h4 h5)
    obtain ⟨A2, c2, hv⟩ := HO.out.len
    go_ret
    rw [List.nil_append] at hv
    subst hv
    exact ⟨A2, c2, rfl, by have h := HO.out; rwa [List.nil_append] at h, HB2.out⟩

/-- An entry, as a value. -/
def entV (x : Ent) : Value := .agg #[.int .i64 x.idx, .int .i64 x.trm, .int .i64 x.knd, .slice x.ba x.bd.length x.bc]
/-- What the loop is handed: a place of the list, and what stands there. -/
abbrev At1 (l : List Ent) : Type := { p : Nat × Ent // l[p.1]? = some p.2 }
/-- The first k from behind. -/
def backN (n k : Nat) : List Nat := (List.range k).map fun j => n - 1 - j
theorem backN_succ (n k : Nat) : backN n (k + 1) = backN n k ++ [n - 1 - k] := by simp [backN, List.range_succ]

set_option maxRecDepth 100000 in
set_option maxHeartbeats 2000000 in
theorem back1 (F : Fence) (n : Nat) (h7 : F.fn 161) (hro : F.round = none) (hn : 1 ≤ n) (l Bs n₀ b off cap : Nat) (es : List Ent) (hlen : es.length ≤ 1000000) (hb : b < n₀) (J Jx : List (At1 es) → World → Prop)
    (hY : ∀ pre x W, J pre W → pre.length < es.length → YieldAt F (n - 1) Tryz.prog l #[.int .i64 (x.1.1 : Int), Value.agg #[.int .i64 x.1.2.idx, .int .i64 x.1.2.trm, .int .i64 x.1.2.knd, .slice x.1.2.ba x.1.2.bd.length x.1.2.bc]] W fun e W' =>
      (e = .returned (.bool true) ∧ J (pre ++ [x]) W' ∧ Below n₀ W W') ∨ (e = .returned (.bool false) ∧ Jx (pre ++ [x]) W'))
    (W : World) (hBs : W.cell? ⟨Bs, 0, none⟩ = some (.slice (some ⟨b, off, none⟩) es.length cap)) (hBn : Bs < n₀)
    (hc : ∀ i x, es[i]? = some x → ∀ j u, (entRow x)[j]? = some u → W.cell? ⟨b, off + i * 4 + j, none⟩ = some u) (h0 : J [] W) :
    CallsIn F n Tryz.prog 161 #[.func (.yield l) #[] #[], .pointer (some ⟨Bs, 0, none⟩)] W fun e W' => (∃ v, e = .returned v) ∧
      ((∃ ys, ys.map (fun x => x.1.1) = backN es.length es.length ∧ J ys W') ∨ (∃ pre, (∃ k, k ≤ es.length ∧ pre.map (fun x => x.1.1) = backN es.length k) ∧ Jx pre W')) := by
  refine callsIn_of_wp Tryz.func161 rfl h7 ?_ hro
  simp only [Tryz.ntmps161, List.size_toArray, List.length_cons, List.length_nil, Nat.reduceAdd, Nat.reduceSub, Array.replicate_succ, Array.replicate_zero, List.push_toArray, List.append_toArray, List.nil_append, List.cons_append]
  have w0 : wrap64 ((es.length : Int) - 1) = (es.length : Int) - 1 := by unfold wrap64; omega
  gi_wp2
  clear w0
  gi_loopw [3] (fun i wr => ∃ (k : Nat) (pre : List (At1 es)), k ≤ es.length ∧ i = .int .i64 ((es.length : Int) - 1 - (k : Int)) ∧ pre.map (fun x => x.1.1) = backN es.length k ∧ J pre wr ∧ Below n₀ W wr)
    (fun i _ => (intOf i + 1).toNat)
  case atStart => exact ⟨0, [], Nat.zero_le _, by simp, rfl, h0, Below.refl _ _⟩
  case round =>
    obtain ⟨k, pre, hk, rfl, hpre, hJs, hnx⟩ := hrel
    have hpl : pre.length = k := by have := congrArg List.length hpre; simpa [backN] using this
    by_cases hlt : k < es.length
    · obtain ⟨x, hx⟩ : ∃ x, es[es.length - 1 - k]? = some x := ⟨_, List.getElem?_eq_getElem (by omega)⟩
      have hbs := (hnx.cell (p := ⟨Bs, 0, none⟩) hBn).trans hBs
      have c0 := (hnx.cell (p := ⟨b, off + (es.length - 1 - k) * 4, none⟩) hb).trans (hc _ x hx 0 _ rfl)
      have c1 := (hnx.cell (p := ⟨b, off + (es.length - 1 - k) * 4 + 1, none⟩) hb).trans (hc _ x hx 1 _ rfl)
      have c2 := (hnx.cell (p := ⟨b, off + (es.length - 1 - k) * 4 + 2, none⟩) hb).trans (hc _ x hx 2 _ rfl)
      have c3 := (hnx.cell (p := ⟨b, off + (es.length - 1 - k) * 4 + 3, none⟩) hb).trans (hc _ x hx 3 _ rfl)
      obtain ⟨fn, tmps, assign, body, hy, hR⟩ := hY pre ⟨(es.length - 1 - k, x), hx⟩ wr hJs (by omega)
      dsimp only at hy
      obtain ⟨m, hm⟩ : ∃ m, es.length - 1 - k = m := ⟨_, rfl⟩
      have e1 : (es.length : Int) - 1 - (k : Int) = (m : Int) := by omega
      rw [hm] at c0 c1 c2 c3 hy
      rw [e1]
      have i0 : (0 : Int) ≤ (m : Int) := by omega
      have i1 : (m : Int) < (es.length : Int) := by omega
      have d0 : decide ((0 : Int) ≤ (m : Int)) = true := decide_eq_true i0
      have w1 : wrap64 ((m : Int) - 1) = (m : Int) - 1 := by unfold wrap64; omega
      gi_wp2
      refine hR.mono ?_
      rintro e W3 (⟨rfl, hJ3, hk3⟩ | ⟨rfl, hJx3⟩)
      · gi_wp2
        go_roundw
        case rel => exact ⟨k + 1, _, by omega, by rw [show (es.length : Int) - 1 - ((k + 1 : Nat) : Int) = (m : Int) - 1 by omega], by rw [List.map_append, hpre, backN_succ]; rfl, hJ3, hnx.trans hk3⟩
        case measure => simp [intOf]
      · gi_wp2
        refine bodyPost_ret (results_none rfl _ _ _) rfl ?_
        exact ⟨⟨_, rfl⟩, .inr ⟨_, ⟨k + 1, by omega, by rw [List.map_append, hpre, backN_succ]; rfl⟩, hJx3⟩⟩
    · have hkl : k = es.length := by omega
      rw [show (es.length : Int) - 1 - (k : Int) = -1 by omega]
      rw [hkl] at hpre
      gi_wp2
      go_end0
      exact ⟨⟨_, rfl⟩, .inl ⟨_, hpre, hJs⟩⟩

set_option maxRecDepth 100000 in
set_option maxHeartbeats 1000000 in
theorem back_none (F : Fence) (n : Nat) (h7 : F.fn 161) (hro : F.round = none) (l Bs cap : Nat) (A : Option Addr) (J : World → Prop) (W : World) (hBs : W.cell? ⟨Bs, 0, none⟩ = some (.slice A 0 cap)) (h0 : J W) :
    CallsIn F n Tryz.prog 161 #[.func (.yield l) #[] #[], .pointer (some ⟨Bs, 0, none⟩)] W fun e W' => (∃ v, e = .returned v) ∧ J W' := by
  refine callsIn_of_wp Tryz.func161 rfl h7 ?_ hro
  simp only [Tryz.ntmps161, List.size_toArray, List.length_cons, List.length_nil, Nat.reduceAdd, Nat.reduceSub, Array.replicate_succ, Array.replicate_zero, List.push_toArray, List.append_toArray, List.nil_append, List.cons_append]
  gi_wp2
  gi_loopw [3] (fun i wr => i = .int .i64 (-1) ∧ J wr) (fun _ _ => 0)
  case atStart => exact ⟨rfl, h0⟩
  case round =>
    obtain ⟨rfl, hJs⟩ := hrel
    gi_wp2
    go_end0
    exact ⟨⟨_, rfl⟩, hJs⟩

theorem back_stops (F : Fence) (n : Nat) (h7 : F.fn 161) (hro : F.round = none) (hn : 1 ≤ n) (Bs n₀ : Nat) (sv : Value) (es : List Ent) (hlen : es.length ≤ 1000000) (w : World) (hBs : Bs < n₀) (hn₀ : n₀ ≤ w.heap.size)
    (hc : w.cell? ⟨Bs, 0, none⟩ = some sv) (hI : Sl 4 entRow n₀ w sv es) :
    SeqStopsK F n Tryz.prog 161 #[.pointer (some ⟨Bs, 0, none⟩)] (fun x : At1 es => #[Value.int .i64 (x.1.1 : Int), Value.agg #[.int .i64 x.1.2.idx, .int .i64 x.1.2.trm, .int .i64 x.1.2.knd, .slice x.1.2.ba x.1.2.bd.length x.1.2.bc]]) (Below n₀) (fun ys => ys.map (fun x => x.1.1) = backN es.length es.length) (fun pre => ∃ k, k ≤ es.length ∧ pre.map (fun x => x.1.1) = backN es.length k) es.length w := fun l J Jx W hW _ _ hY h0 => by
  have hc' := (hW.cell (p := ⟨Bs, 0, none⟩) (show Bs < w.heap.size by omega)).trans hc
  have hI' := hI.below (hW.mono hn₀)
  by_cases hz : es = []
  · subst hz
    obtain ⟨A, cap, rfl, -⟩ := hI'
    exact (back_none F n h7 hro l Bs _ _ (J []) W hc' h0).mono fun e W' ⟨he, hj⟩ => ⟨he, .inl ⟨[], rfl, hj⟩⟩
  · obtain ⟨b, off, cap, rfl, -, -, hb, hcs⟩ := hI'.cellAt hz
    exact back1 F n h7 hro hn l Bs n₀ b off cap es hlen hb J Jx hY W hc' hBs hcs h0

set_option maxHeartbeats 1000000 in
theorem backC (A : Option Addr) (len cap : Nat) (w : World) :
    Calls Tryz.prog 108 #[.slice A len cap] w fun e w' => e = .returned (.func (.func 161) #[] #[.pointer (some ⟨w.heap.size, 0, none⟩)]) ∧ w' = w.alloc (.cells #[.slice A len cap] 28) := by
  go_enter Tryz.func108, Tryz.ntmps108
  go_wp2
  go_ret
  exact ⟨rfl, rfl⟩
end Go.Proofs.YthadfdpdillemaaGreatDoor
