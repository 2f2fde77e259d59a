/-
  lead's sent: contract.
-/
import Derived.Test.YtnhodaconlodbaaDoorLeadNextMath
import Derived.Test.YtnhodaconlodbaaDoorMatch
import Derived.Test.YtnhodaconlodbaaDoorMatchAt
import Derived.Deep.RegionHeld3
import Derived.Deep.DeepCutAuto
import Derived.StillTailTactics
set_option linter.unusedVariables false
set_option linter.unusedSimpArgs false
namespace Go.Proofs.YtnhodaconlodbaaDoor
open Go.RowKit

/-- Why nothing is sent, as an error. -/
def whyV (who n : Int) : Value := if n = 0 then .nilIface else if n = 2 then .iface 139 (.int .i64 2) else .iface 172 (.agg #[.int .i64 who, .iface 139 (.int .i64 n)])
theorem at_none {P : Program} {f : FuncId} {args : Array Value} {b : Idt} {l : List Idt} {i : Int} {w : World} (h : Calls P f args w (AtPost b l i w)) (ha : atV b l i = none) : Calls P f args w fun e w' => e = .returned (.tuple #[.agg #[.int .i64 0, .int .i64 0, .int .i64 0], .bool false]) ∧ Below w.heap.size w w' := by
  unfold AtPost at h; rw [ha] at h; exact h
theorem at_some {P : Program} {f : FuncId} {args : Array Value} {b p : Idt} {l : List Idt} {i : Int} {w : World} (h : Calls P f args w (AtPost b l i w)) (ha : atV b l i = some p) : Calls P f args w fun e w' => e = .returned (.tuple #[.agg #[.int .i64 p.idx, .int .i64 p.trm, .int .i64 p.knd], .bool true]) ∧ Below w.heap.size w w' := by
  unfold AtPost at h; rw [ha] at h; exact h
theorem bodyPost_box {P : Program} {f : Func} {Q : Ending → World → Prop} {x : Exit} {a : Act} {W w : World} {g B : Nat} {cs : Array Value} {t : TypeId} (hb : Box W g cs t) (hB : Below B w W) (k : ∀ W', Box W' g cs t → Below B w W' → bodyPost P f Q x a W') : bodyPost P f Q x a W := k W hb hB
theorem box_drew {w : World} {n : Nat} {cs : Array Value} {t : TypeId} (h : Box w n cs t) : Box w.drew n cs t := h
theorem Box.set6 {w : World} {n : Nat} {a b c d e f : Value} {t : TypeId} (h : Box w n #[a, b, c, d, e, f] t) (x y z u v s : Value) :
    Box ((((((w.setCell ⟨n, 0, none⟩ x).setCell ⟨n, 1, none⟩ y).setCell ⟨n, 2, none⟩ z).setCell ⟨n, 3, none⟩ u).setCell ⟨n, 4, none⟩ v).setCell ⟨n, 5, none⟩ s) n #[x, y, z, u, v, s] t := (((((h.set_ 0 x).set_ 1 y).set_ 2 z).set_ 3 u).set_ 4 v).set_ 5 s
theorem below_set6 {B : Nat} {a w : World} {n : Nat} (h : Below B a w) (hn : B ≤ n) (x y z u v s : Value) :
    Below B a ((((((w.setCell ⟨n, 0, none⟩ x).setCell ⟨n, 1, none⟩ y).setCell ⟨n, 2, none⟩ z).setCell ⟨n, 3, none⟩ u).setCell ⟨n, 4, none⟩ v).setCell ⟨n, 5, none⟩ s) :=
  below_set (below_set (below_set (below_set (below_set (below_set h hn) hn) hn) hn) hn) hn
theorem Box.far6 {w : World} {n g : Nat} {cs : Array Value} {t : TypeId} (h : Box w n cs t) (hg : n ≠ g) (x y z u v s : Value) :
    Box ((((((w.setCell ⟨g, 0, none⟩ x).setCell ⟨g, 1, none⟩ y).setCell ⟨g, 2, none⟩ z).setCell ⟨g, 3, none⟩ u).setCell ⟨g, 4, none⟩ v).setCell ⟨g, 5, none⟩ s) n cs t :=
  (((((h.far (p := ⟨g, 0, none⟩) hg x).far (p := ⟨g, 1, none⟩) hg y).far (p := ⟨g, 2, none⟩) hg z).far (p := ⟨g, 3, none⟩) hg u).far (p := ⟨g, 4, none⟩) hg v).far (p := ⟨g, 5, none⟩) hg s
def SentPost (who nx many : Int) (b : Idt) (l : List Idt) (w : World) (e : Ending) (w' : World) : Prop :=
  e = .returned (.tuple #[sndV (nextN b l nx many).2, whyV who (nextN b l nx many).1]) ∧ Below w.heap.size w w'
theorem sent_mk {who nx many n : Int} {b : Idt} {l : List Idt} {w w' : World} {s : Snd} {v : Value} (h : nextN b l nx many = (n, s)) (hv : v = .tuple #[sndV s, whyV who n]) (hb : Below w.heap.size w w') : SentPost who nx many b l w (.returned v) w' := by
  unfold SentPost; rw [h, hv]; exact ⟨rfl, hb⟩
set_option maxRecDepth 100000 in
set_option maxHeartbeats 4000000 in
theorem leadSent (who nx mt pc many : Int) (b : Idt) (l : List Idt) (A : Option Addr) (c : Nat) (w : World) (h : Sl 3 idRow w.heap.size w (.slice A l.length c) l) (hb : I64 b.idx) (hin : ∀ p ∈ l, I64 p.idx) (hnx : I64 nx) (hmy : I64 many) :
    Calls Tryd.prog 79 #[.agg #[.int .i64 who, .int .i64 nx, .int .i64 mt, .int .i64 pc], .agg #[.int .i64 b.idx, .int .i64 b.trm, .int .i64 b.knd, .slice A l.length c], .int .i64 many] w (SentPost who nx many b l w) := by
  have HS := Lib.hid (((h.later (below_new w (.cells #[.int .i64 who, .int .i64 nx, .int .i64 mt, .int .i64 pc] 24))).later (below_new _ (.cells #[.int .i64 b.idx, .int .i64 b.trm, .int .i64 b.knd, .slice A l.length c] 32))).later (below_new _ (.cells #[.bool false, .int .i64 0, .int .i64 0, .int .i64 0, .int .i64 0, .int .i64 0] 85)))
  obtain ⟨hb', hin'⟩ : I64 b.idx ∧ (∀ p ∈ l, I64 p.idx) := ⟨hb, hin⟩
  clear h hb hin
  obtain ⟨n0, n1⟩ := hnx
  obtain ⟨m0, m1⟩ := hmy
  cases hr : rightV b l with
  | false =>
    have HR := Lib.hid hr
    have HF := Lib.hid (nextN_bad (nx := nx) (many := many) hr)
    clear hr
    go_enter Tryd.func79, Tryd.ntmps79
    go_wp2_with (go_at_call 55; refine (matchRight b l A c _ (HS.out) hb' hin').mono ?_; rintro e w1 ⟨rfl, hb1⟩; rw [HR.out]; obtain ⟨pa, pb, pc', P⟩ := boxes3 #[.int .i64 who, .int .i64 nx, .int .i64 mt, .int .i64 pc] #[.int .i64 b.idx, .int .i64 b.trm, .int .i64 b.knd, .slice A l.length c] #[.bool false, .int .i64 0, .int .i64 0, .int .i64 0, .int .i64 0, .int .i64 0] 24 32 85 hb1; obtain ⟨ka, fa, za⟩ := pa.facts; obtain ⟨kb, fb, zb⟩ := pb.facts; obtain ⟨kc, fc, zc⟩ := pc'.facts)
    refine bodyPost_box (pc'.set6 _ _ _ _ _ _) (below_set6 P (by omega) _ _ _ _ _ _) ?_
    intro wz hz1 hz2
    obtain ⟨kz, -, -⟩ := hz1.facts
    refine bodyPost_ret (v := .tuple #[.agg #[.bool false, .int .i64 0, .int .i64 0, .int .i64 0, .int .i64 0, .int .i64 0], .iface 139 (.int .i64 2)]) (by simp [results, Tryd.results79, go_sem, kz]) rfl (sent_mk HF.out rfl hz2)
  | true =>
    obtain ⟨r0, r1, r2⟩ := rightV_head hr
    have HR := Lib.hid hr
    by_cases h1 : b.idx + (l.length : Int) + 1 < nx
    · have d1 : decide (b.idx + (l.length : Int) + 1 < nx) = true := decide_eq_true h1
      have HF := Lib.hid (nextN_far (many := many) hr h1)
      clear hr
      go_enter Tryd.func79, Tryd.ntmps79
      go_upto_region 5 with (go_at_call 55; refine (matchRight b l A c _ (HS.out) hb' hin').mono ?_; rintro e w1 ⟨rfl, hb1⟩; rw [HR.out]; obtain ⟨pa, pb, pc', P⟩ := boxes3 #[.int .i64 who, .int .i64 nx, .int .i64 mt, .int .i64 pc] #[.int .i64 b.idx, .int .i64 b.trm, .int .i64 b.knd, .slice A l.length c] #[.bool false, .int .i64 0, .int .i64 0, .int .i64 0, .int .i64 0, .int .i64 0] 24 32 85 hb1; obtain ⟨ka, fa, za⟩ := pa.facts; obtain ⟨kb, fb, zb⟩ := pb.facts; obtain ⟨kc, fc, zc⟩ := pc'.facts)
      have B6 := Lib.hid (show Box w1.drew (w.heap.size + 1 + 1) #[.bool false, .int .i64 0, .int .i64 0, .int .i64 0, .int .i64 0, .int .i64 0] 85 from pc')
      have B3 := Lib.hid (show Box w1.drew w.heap.size #[.int .i64 who, .int .i64 nx, .int .i64 mt, .int .i64 pc] 24 from pa)
      have B6s := Lib.hid (box_drew (Box.set6 pc' (.bool false) (.int .i64 0) (.int .i64 0) (.int .i64 0) (.int .i64 0) (.int .i64 0)))
      have B3s := Lib.hid (box_drew (Box.far6 (g := w.heap.size + 1 + 1) pa (by omega) (.bool false) (.int .i64 0) (.int .i64 0) (.int .i64 0) (.int .i64 0) (.int .i64 0)))
      have PDs := Lib.hid (below_set6 P (n := w.heap.size + 1 + 1) (by omega) (.bool false) (.int .i64 0) (.int .i64 0) (.int .i64 0) (.int .i64 0) (.int .i64 0)).drew
      have HF6 : Hid (∀ w', Box w' (w.heap.size + 1 + 1) #[.bool false, .int .i64 0, .int .i64 0, .int .i64 0, .int .i64 0, .int .i64 0] 85 → Box w' w.heap.size #[.int .i64 who, .int .i64 nx, .int .i64 mt, .int .i64 pc] 24 → (w'.cell? ⟨w.heap.size + 1 + 1, 0, none⟩ = some (.bool false) ∧ w'.cell? ⟨w.heap.size + 1 + 1, 1, none⟩ = some (.int .i64 0) ∧ w'.cell? ⟨w.heap.size + 1 + 1, 2, none⟩ = some (.int .i64 0) ∧ w'.cell? ⟨w.heap.size + 1 + 1, 3, none⟩ = some (.int .i64 0) ∧ w'.cell? ⟨w.heap.size + 1 + 1, 4, none⟩ = some (.int .i64 0) ∧ w'.cell? ⟨w.heap.size + 1 + 1, 5, none⟩ = some (.int .i64 0) ∧ w'.cell? ⟨w.heap.size, 0, none⟩ = some (.int .i64 who) ∧ (∀ i, w'.frozen? ⟨w.heap.size + 1 + 1, i, none⟩ = false) ∧ w.heap.size + 1 + 1 < w'.heap.size)) := fun w' q6 q3 => ⟨q6.cell 0, q6.cell 1, q6.cell 2, q6.cell 3, q6.cell 4, q6.cell 5, q3.cell 0, q6.free, q6.lt⟩
      obtain ⟨kz, fz, zz⟩ := (pc').facts
      refine wp_region_held_drew (S := fun w' => w'.cell? ⟨w.heap.size + 1 + 1, 0, none⟩ = some (.bool false) ∧ w'.cell? ⟨w.heap.size + 1 + 1, 1, none⟩ = some (.int .i64 0) ∧ w'.cell? ⟨w.heap.size + 1 + 1, 2, none⟩ = some (.int .i64 0) ∧ w'.cell? ⟨w.heap.size + 1 + 1, 3, none⟩ = some (.int .i64 0) ∧ w'.cell? ⟨w.heap.size + 1 + 1, 4, none⟩ = some (.int .i64 0) ∧ w'.cell? ⟨w.heap.size + 1 + 1, 5, none⟩ = some (.int .i64 0) ∧ w'.cell? ⟨w.heap.size, 0, none⟩ = some (.int .i64 who) ∧ (∀ i, w'.frozen? ⟨w.heap.size + 1 + 1, i, none⟩ = false) ∧ w.heap.size + 1 + 1 < w'.heap.size) (by kernel_rfl) (HF6.out _ B6.out B3.out) (fun hHeld => ?_)
      refine wpAnyH_take (i := 0) (v := .agg #[.bool false, .int .i64 0, .int .i64 0, .int .i64 0, .int .i64 0, .int .i64 0] ) rfl (by kernel_rfl) (by kernel_rfl) (by kernel_rfl) (fun _ _ _ h => h) (Or.inl ⟨by rfl, by (intro w hSw; clear hHeld; go_split_ands; go_simp)⟩) (by assumption) ?_
      try simp only [Act.put, List.setIfInBounds_toArray, List.set_cons_zero, List.set_cons_succ, List.getElem_toArray, List.getElem_cons_zero, List.getElem_cons_succ]
      refine wpAnyH_take (i := 1) (v := .pointer (some ⟨w.heap.size, 0, none⟩)) rfl (by kernel_rfl) (by kernel_rfl) (by kernel_rfl) (fun _ _ _ h => h) (Or.inl ⟨by rfl, by (intro w hSw; clear hSw hHeld; go_simp)⟩) (by assumption) ?_
      try simp only [Act.put, List.setIfInBounds_toArray, List.set_cons_zero, List.set_cons_succ, List.getElem_toArray, List.getElem_cons_zero, List.getElem_cons_succ]
      refine wpAnyH_take (i := 2) (v := .int .i64 who) rfl (by kernel_rfl) (by kernel_rfl) (by kernel_rfl) (fun _ _ _ h => h) (Or.inl ⟨by rfl, by (intro w hSw; clear hHeld; go_split_ands; go_simp)⟩) (by assumption) ?_
      try simp only [Act.put, List.setIfInBounds_toArray, List.set_cons_zero, List.set_cons_succ, List.getElem_toArray, List.getElem_cons_zero, List.getElem_cons_succ]
      refine wpAnyH_take (i := 3) (v := .iface 139 (.int .i64 7)) rfl (by kernel_rfl) (by kernel_rfl) (by kernel_rfl) (fun _ _ _ h => h) (Or.inl ⟨by rfl, by (intro w hSw; clear hSw hHeld; go_simp)⟩) (by assumption) ?_
      try simp only [Act.put, List.setIfInBounds_toArray, List.set_cons_zero, List.set_cons_succ, List.getElem_toArray, List.getElem_cons_zero, List.getElem_cons_succ]
      refine wpAnyH_take (i := 4) (v := .agg #[.int .i64 who, .iface 139 (.int .i64 7)]) rfl (by kernel_rfl) (by kernel_rfl) (by kernel_rfl) (fun _ _ _ h => h) (Or.inl ⟨by rfl, by (intro w hSw; clear hSw hHeld; go_simp)⟩) (by assumption) ?_
      try simp only [Act.put, List.setIfInBounds_toArray, List.set_cons_zero, List.set_cons_succ, List.getElem_toArray, List.getElem_cons_zero, List.getElem_cons_succ]
      refine wpAnyH_take (i := 5) (v := .iface 172 (.agg #[.int .i64 who, .iface 139 (.int .i64 7)])) rfl (by kernel_rfl) (by kernel_rfl) (by kernel_rfl) (fun _ _ _ h => h) (Or.inl ⟨by rfl, by (intro w hSw; clear hSw hHeld; go_simp)⟩) (by assumption) ?_
      try simp only [Act.put, List.setIfInBounds_toArray, List.set_cons_zero, List.set_cons_succ, List.getElem_toArray, List.getElem_cons_zero, List.getElem_cons_succ]

      refine wpAnyH_ready (rs := [6]) (by kernel_rfl) (by simp) ?_
      refine AllReadyH.cons rfl (fun K hK => ?_) AllReadyH.nil
      go_simp
      refine hK.out _ _ (HF6.out _ B6s.out B3s.out) (fun hH => ?_)
      clear hK K hHeld
      try simp only [Act.put, List.setIfInBounds_toArray, List.set_cons_zero, List.set_cons_succ, List.getElem_toArray, List.getElem_cons_zero, List.getElem_cons_succ]
      refine wpAnyH_take (i := 7) (v := .iface 172 (.agg #[.int .i64 who, .iface 139 (.int .i64 7)])) rfl (by kernel_rfl) (by kernel_rfl) (by kernel_rfl) (fun _ _ _ h => h) (Or.inl ⟨by rfl, by (intro w hSw; clear hSw hH; go_simp)⟩) (by assumption) ?_
      try simp only [Act.put, List.setIfInBounds_toArray, List.set_cons_zero, List.set_cons_succ, List.getElem_toArray, List.getElem_cons_zero, List.getElem_cons_succ]
      refine wpAnyH_done (by kernel_rfl) ?_ _
      clear hH kz fz zz
      go_wp2_with fail
      refine bodyPost_box B6s.out PDs.out ?_
      intro wz hz1 hz2
      obtain ⟨kz, -, -⟩ := hz1.facts
      refine bodyPost_ret (v := .tuple #[.agg #[.bool false, .int .i64 0, .int .i64 0, .int .i64 0, .int .i64 0, .int .i64 0], .iface 172 (.agg #[.int .i64 who, .iface 139 (.int .i64 7)])]) (by simp [results, Tryd.results79, go_sem, kz]) rfl (sent_mk HF.out rfl hz2)
    have d1 : decide (b.idx + (l.length : Int) + 1 < nx) = false := decide_eq_false h1
    by_cases h2 : nx ≤ b.idx
    · have d2 : decide (nx ≤ b.idx) = true := decide_eq_true h2
      have HF := Lib.hid (nextN_piece (many := many) hr h1 h2)
      clear hr
      go_enter Tryd.func79, Tryd.ntmps79
      go_wp2_with (go_at_call 55; refine (matchRight b l A c _ (HS.out) hb' hin').mono ?_; rintro e w1 ⟨rfl, hb1⟩; rw [HR.out]; obtain ⟨pa, pb, pc', P⟩ := boxes3 #[.int .i64 who, .int .i64 nx, .int .i64 mt, .int .i64 pc] #[.int .i64 b.idx, .int .i64 b.trm, .int .i64 b.knd, .slice A l.length c] #[.bool false, .int .i64 0, .int .i64 0, .int .i64 0, .int .i64 0, .int .i64 0] 24 32 85 hb1; obtain ⟨ka, fa, za⟩ := pa.facts; obtain ⟨kb, fb, zb⟩ := pb.facts; obtain ⟨kc, fc, zc⟩ := pc'.facts)
      refine bodyPost_box (pc'.set6 _ _ _ _ _ _) (below_set6 P (by omega) _ _ _ _ _ _) ?_
      intro wz hz1 hz2
      obtain ⟨kz, -, -⟩ := hz1.facts
      refine bodyPost_ret (v := .tuple #[.agg #[.bool true, .int .i64 0, .int .i64 0, .int .i64 0, .int .i64 0, .int .i64 0], .nilIface]) (by simp [results, Tryd.results79, go_sem, kz]) rfl (sent_mk HF.out rfl hz2)
    have d2 : decide (nx ≤ b.idx) = false := decide_eq_false h2
    have hx1 : I64 (nx - 1) := ⟨by omega, by omega⟩
    have HX1 := Lib.hid hx1
    cases ha : atV b l (nx - 1) with
    | none =>
      have HA := Lib.hid ha
      have HF := Lib.hid (nextN_rot (many := many) hr h1 h2 ha)
      clear hr ha hx1
      go_enter Tryd.func79, Tryd.ntmps79
      go_upto_region 10 with (first | (go_at_call 55; refine (matchRight b l A c _ (HS.out) hb' hin').mono ?_; rintro e w1 ⟨rfl, hb1⟩; rw [HR.out]; obtain ⟨pa, pb, pc', P⟩ := boxes3 #[.int .i64 who, .int .i64 nx, .int .i64 mt, .int .i64 pc] #[.int .i64 b.idx, .int .i64 b.trm, .int .i64 b.knd, .slice A l.length c] #[.bool false, .int .i64 0, .int .i64 0, .int .i64 0, .int .i64 0, .int .i64 0] 24 32 85 hb1; obtain ⟨ka, fa, za⟩ := pa.facts; obtain ⟨kb, fb, zb⟩ := pb.facts; obtain ⟨kc, fc, zc⟩ := pc'.facts) | (go_at_call 18; refine (at_none (matchAt b l A c (nx - 1) _ ((HS.out).later hb1) hb' HX1.out) HA.out).mono ?_; rintro e w2 ⟨rfl, hb2⟩; have Q6 := pc'.later hb2; have Q3 := pa.later hb2; have Q4 := pb.later hb2; have QP := below_call P hb2; obtain ⟨qa, ga, ya⟩ := Q3.facts; obtain ⟨qc, gc, yc⟩ := Q6.facts; obtain ⟨qb, gb, yb⟩ := Q4.facts; clear ka fa za kb fb zb kc fc zc))
      obtain ⟨wq, hwq⟩ : ∃ wq, wq = w2.alloc (.cells #[.int .i64 0, .int .i64 0, .int .i64 0] 29) := ⟨_, rfl⟩
      have R6 := Q6.alloc (.cells #[.int .i64 0, .int .i64 0, .int .i64 0] 29)
      have R3 := Q3.alloc (.cells #[.int .i64 0, .int .i64 0, .int .i64 0] 29)
      have RP := below_call QP (below_new w2 (.cells #[.int .i64 0, .int .i64 0, .int .i64 0] 29))
      rw [← hwq] at R6 R3 RP
      rw [← hwq]
      clear hwq qa ga ya qb gb yb qc gc yc
      have B6 := Lib.hid (show Box wq.drew (w.heap.size + 1 + 1) #[.bool false, .int .i64 0, .int .i64 0, .int .i64 0, .int .i64 0, .int .i64 0] 85 from R6)
      have B3 := Lib.hid (show Box wq.drew w.heap.size #[.int .i64 who, .int .i64 nx, .int .i64 mt, .int .i64 pc] 24 from R3)
      have B6s := Lib.hid (box_drew (Box.set6 R6 (.bool false) (.int .i64 0) (.int .i64 0) (.int .i64 0) (.int .i64 0) (.int .i64 0)))
      have B3s := Lib.hid (box_drew (Box.far6 (g := w.heap.size + 1 + 1) R3 (by omega) (.bool false) (.int .i64 0) (.int .i64 0) (.int .i64 0) (.int .i64 0) (.int .i64 0)))
      have PDs := Lib.hid (below_set6 RP (n := w.heap.size + 1 + 1) (by omega) (.bool false) (.int .i64 0) (.int .i64 0) (.int .i64 0) (.int .i64 0) (.int .i64 0)).drew
      have HF6 : Hid (∀ w', Box w' (w.heap.size + 1 + 1) #[.bool false, .int .i64 0, .int .i64 0, .int .i64 0, .int .i64 0, .int .i64 0] 85 → Box w' w.heap.size #[.int .i64 who, .int .i64 nx, .int .i64 mt, .int .i64 pc] 24 → (w'.cell? ⟨w.heap.size + 1 + 1, 0, none⟩ = some (.bool false) ∧ w'.cell? ⟨w.heap.size + 1 + 1, 1, none⟩ = some (.int .i64 0) ∧ w'.cell? ⟨w.heap.size + 1 + 1, 2, none⟩ = some (.int .i64 0) ∧ w'.cell? ⟨w.heap.size + 1 + 1, 3, none⟩ = some (.int .i64 0) ∧ w'.cell? ⟨w.heap.size + 1 + 1, 4, none⟩ = some (.int .i64 0) ∧ w'.cell? ⟨w.heap.size + 1 + 1, 5, none⟩ = some (.int .i64 0) ∧ w'.cell? ⟨w.heap.size, 0, none⟩ = some (.int .i64 who) ∧ (∀ i, w'.frozen? ⟨w.heap.size + 1 + 1, i, none⟩ = false) ∧ w.heap.size + 1 + 1 < w'.heap.size)) := fun w' q6 q3 => ⟨q6.cell 0, q6.cell 1, q6.cell 2, q6.cell 3, q6.cell 4, q6.cell 5, q3.cell 0, q6.free, q6.lt⟩
      obtain ⟨kz, fz, zz⟩ := (R6).facts
      refine wp_region_held_drew (S := fun w' => w'.cell? ⟨w.heap.size + 1 + 1, 0, none⟩ = some (.bool false) ∧ w'.cell? ⟨w.heap.size + 1 + 1, 1, none⟩ = some (.int .i64 0) ∧ w'.cell? ⟨w.heap.size + 1 + 1, 2, none⟩ = some (.int .i64 0) ∧ w'.cell? ⟨w.heap.size + 1 + 1, 3, none⟩ = some (.int .i64 0) ∧ w'.cell? ⟨w.heap.size + 1 + 1, 4, none⟩ = some (.int .i64 0) ∧ w'.cell? ⟨w.heap.size + 1 + 1, 5, none⟩ = some (.int .i64 0) ∧ w'.cell? ⟨w.heap.size, 0, none⟩ = some (.int .i64 who) ∧ (∀ i, w'.frozen? ⟨w.heap.size + 1 + 1, i, none⟩ = false) ∧ w.heap.size + 1 + 1 < w'.heap.size) (by kernel_rfl) (HF6.out _ B6.out B3.out) (fun hHeld => ?_)
      refine wpAnyH_take (i := 0) (v := .agg #[.bool false, .int .i64 0, .int .i64 0, .int .i64 0, .int .i64 0, .int .i64 0] ) rfl (by kernel_rfl) (by kernel_rfl) (by kernel_rfl) (fun _ _ _ h => h) (Or.inl ⟨by rfl, by (intro w hSw; clear hHeld; go_split_ands; go_simp)⟩) (by assumption) ?_
      try simp only [Act.put, List.setIfInBounds_toArray, List.set_cons_zero, List.set_cons_succ, List.getElem_toArray, List.getElem_cons_zero, List.getElem_cons_succ]
      refine wpAnyH_take (i := 1) (v := .pointer (some ⟨w.heap.size, 0, none⟩)) rfl (by kernel_rfl) (by kernel_rfl) (by kernel_rfl) (fun _ _ _ h => h) (Or.inl ⟨by rfl, by (intro w hSw; clear hSw hHeld; go_simp)⟩) (by assumption) ?_
      try simp only [Act.put, List.setIfInBounds_toArray, List.set_cons_zero, List.set_cons_succ, List.getElem_toArray, List.getElem_cons_zero, List.getElem_cons_succ]
      refine wpAnyH_take (i := 2) (v := .int .i64 who) rfl (by kernel_rfl) (by kernel_rfl) (by kernel_rfl) (fun _ _ _ h => h) (Or.inl ⟨by rfl, by (intro w hSw; clear hHeld; go_split_ands; go_simp)⟩) (by assumption) ?_
      try simp only [Act.put, List.setIfInBounds_toArray, List.set_cons_zero, List.set_cons_succ, List.getElem_toArray, List.getElem_cons_zero, List.getElem_cons_succ]
      refine wpAnyH_take (i := 3) (v := .iface 139 (.int .i64 9)) rfl (by kernel_rfl) (by kernel_rfl) (by kernel_rfl) (fun _ _ _ h => h) (Or.inl ⟨by rfl, by (intro w hSw; clear hSw hHeld; go_simp)⟩) (by assumption) ?_
      try simp only [Act.put, List.setIfInBounds_toArray, List.set_cons_zero, List.set_cons_succ, List.getElem_toArray, List.getElem_cons_zero, List.getElem_cons_succ]
      refine wpAnyH_take (i := 4) (v := .agg #[.int .i64 who, .iface 139 (.int .i64 9)]) rfl (by kernel_rfl) (by kernel_rfl) (by kernel_rfl) (fun _ _ _ h => h) (Or.inl ⟨by rfl, by (intro w hSw; clear hSw hHeld; go_simp)⟩) (by assumption) ?_
      try simp only [Act.put, List.setIfInBounds_toArray, List.set_cons_zero, List.set_cons_succ, List.getElem_toArray, List.getElem_cons_zero, List.getElem_cons_succ]
      refine wpAnyH_take (i := 5) (v := .iface 172 (.agg #[.int .i64 who, .iface 139 (.int .i64 9)])) rfl (by kernel_rfl) (by kernel_rfl) (by kernel_rfl) (fun _ _ _ h => h) (Or.inl ⟨by rfl, by (intro w hSw; clear hSw hHeld; go_simp)⟩) (by assumption) ?_
      try simp only [Act.put, List.setIfInBounds_toArray, List.set_cons_zero, List.set_cons_succ, List.getElem_toArray, List.getElem_cons_zero, List.getElem_cons_succ]

      refine wpAnyH_ready (rs := [6]) (by kernel_rfl) (by simp) ?_
      refine AllReadyH.cons rfl (fun K hK => ?_) AllReadyH.nil
      go_simp
      refine hK.out _ _ (HF6.out _ B6s.out B3s.out) (fun hH => ?_)
      clear hK K hHeld
      try simp only [Act.put, List.setIfInBounds_toArray, List.set_cons_zero, List.set_cons_succ, List.getElem_toArray, List.getElem_cons_zero, List.getElem_cons_succ]
      refine wpAnyH_take (i := 7) (v := .iface 172 (.agg #[.int .i64 who, .iface 139 (.int .i64 9)])) rfl (by kernel_rfl) (by kernel_rfl) (by kernel_rfl) (fun _ _ _ h => h) (Or.inl ⟨by rfl, by (intro w hSw; clear hSw hH; go_simp)⟩) (by assumption) ?_
      try simp only [Act.put, List.setIfInBounds_toArray, List.set_cons_zero, List.set_cons_succ, List.getElem_toArray, List.getElem_cons_zero, List.getElem_cons_succ]
      refine wpAnyH_done (by kernel_rfl) ?_ _
      clear hH kz fz zz
      go_wp2_with fail
      refine bodyPost_box B6s.out PDs.out ?_
      intro wz hz1 hz2
      obtain ⟨kz, -, -⟩ := hz1.facts
      refine bodyPost_ret (v := .tuple #[.agg #[.bool false, .int .i64 0, .int .i64 0, .int .i64 0, .int .i64 0, .int .i64 0], .iface 172 (.agg #[.int .i64 who, .iface 139 (.int .i64 9)])]) (by simp [results, Tryd.results79, go_sem, kz]) rfl (sent_mk HF.out rfl hz2)
    | some p =>
      have HA := Lib.hid ha
      have HF := Lib.hid (nextN_send (many := many) hr h1 h2 ha)
      clear hr ha hx1
      by_cases g1 : many < 1
      · have dg : decide (many < 1) = true := decide_eq_true g1
        have HT := Lib.hid (show toN b l nx many = nx - 1 by unfold toN; rw [if_pos g1])
        go_enter Tryd.func79, Tryd.ntmps79
        go_wp2_with (first | (go_at_call 55; refine (matchRight b l A c _ (HS.out) hb' hin').mono ?_; rintro e w1 ⟨rfl, hb1⟩; rw [HR.out]; obtain ⟨pa, pb, pc', P⟩ := boxes3 #[.int .i64 who, .int .i64 nx, .int .i64 mt, .int .i64 pc] #[.int .i64 b.idx, .int .i64 b.trm, .int .i64 b.knd, .slice A l.length c] #[.bool false, .int .i64 0, .int .i64 0, .int .i64 0, .int .i64 0, .int .i64 0] 24 32 85 hb1; obtain ⟨ka, fa, za⟩ := pa.facts; obtain ⟨kb, fb, zb⟩ := pb.facts; obtain ⟨kc, fc, zc⟩ := pc'.facts) | (go_at_call 18; refine (at_some (matchAt b l A c (nx - 1) _ ((HS.out).later hb1) hb' HX1.out) HA.out).mono ?_; rintro e w2 ⟨rfl, hb2⟩; have Q6 := pc'.later hb2; have Q3 := pa.later hb2; have Q4 := pb.later hb2; have QP := below_call P hb2; obtain ⟨qa, ga, ya⟩ := Q3.facts; obtain ⟨qc, gc, yc⟩ := Q6.facts; obtain ⟨qb, gb, yb⟩ := Q4.facts; clear ka fa za kb fb zb kc fc zc))
        all_goals
          refine bodyPost_box ((Q6.set6 _ _ _ _ _ _).alloc _) ((below_set6 QP (n := w.heap.size + 1 + 1) (by omega) _ _ _ _ _ _).alloc (by simp only [World.size_setCell]; exact QP.size) _) ?_
          intro wz hz1 hz2
          obtain ⟨kz, -, -⟩ := hz1.facts
          refine bodyPost_ret (v := .tuple #[.agg #[.bool false, .int .i64 p.idx, .int .i64 p.trm, .int .i64 p.knd, .int .i64 nx, .int .i64 (toN b l nx many)], .nilIface]) ?_ rfl (sent_mk HF.out rfl hz2)
          first | (simp [results, Tryd.results79, go_sem, kz]; done) | (simp [results, Tryd.results79, go_sem, kz]; (rw [HT.out] <;> omega))
      have dg : decide (many < 1) = false := decide_eq_false g1
      by_cases g2 : many ≤ b.idx + (l.length : Int) - nx
      · have dh : decide (many ≤ b.idx + (l.length : Int) - nx) = true := decide_eq_true g2
        have HT := Lib.hid (show toN b l nx many = nx + many - 1 by unfold toN; rw [if_neg g1, if_pos g2])
        go_enter Tryd.func79, Tryd.ntmps79
        go_wp2_with (first | (go_at_call 55; refine (matchRight b l A c _ (HS.out) hb' hin').mono ?_; rintro e w1 ⟨rfl, hb1⟩; rw [HR.out]; obtain ⟨pa, pb, pc', P⟩ := boxes3 #[.int .i64 who, .int .i64 nx, .int .i64 mt, .int .i64 pc] #[.int .i64 b.idx, .int .i64 b.trm, .int .i64 b.knd, .slice A l.length c] #[.bool false, .int .i64 0, .int .i64 0, .int .i64 0, .int .i64 0, .int .i64 0] 24 32 85 hb1; obtain ⟨ka, fa, za⟩ := pa.facts; obtain ⟨kb, fb, zb⟩ := pb.facts; obtain ⟨kc, fc, zc⟩ := pc'.facts) | (go_at_call 18; refine (at_some (matchAt b l A c (nx - 1) _ ((HS.out).later hb1) hb' HX1.out) HA.out).mono ?_; rintro e w2 ⟨rfl, hb2⟩; have Q6 := pc'.later hb2; have Q3 := pa.later hb2; have Q4 := pb.later hb2; have QP := below_call P hb2; obtain ⟨qa, ga, ya⟩ := Q3.facts; obtain ⟨qc, gc, yc⟩ := Q6.facts; obtain ⟨qb, gb, yb⟩ := Q4.facts; clear ka fa za kb fb zb kc fc zc))
        all_goals
          refine bodyPost_box ((Q6.set6 _ _ _ _ _ _).alloc _) ((below_set6 QP (n := w.heap.size + 1 + 1) (by omega) _ _ _ _ _ _).alloc (by simp only [World.size_setCell]; exact QP.size) _) ?_
          intro wz hz1 hz2
          obtain ⟨kz, -, -⟩ := hz1.facts
          refine bodyPost_ret (v := .tuple #[.agg #[.bool false, .int .i64 p.idx, .int .i64 p.trm, .int .i64 p.knd, .int .i64 nx, .int .i64 (toN b l nx many)], .nilIface]) ?_ rfl (sent_mk HF.out rfl hz2)
          first | (simp [results, Tryd.results79, go_sem, kz]; done) | (simp [results, Tryd.results79, go_sem, kz]; (rw [HT.out] <;> omega))
      have dh : decide (many ≤ b.idx + (l.length : Int) - nx) = false := decide_eq_false g2
      have HT := Lib.hid (show toN b l nx many = b.idx + (l.length : Int) by unfold toN; rw [if_neg g1, if_neg g2])
      go_enter Tryd.func79, Tryd.ntmps79
      go_wp2_with (first | (go_at_call 55; refine (matchRight b l A c _ (HS.out) hb' hin').mono ?_; rintro e w1 ⟨rfl, hb1⟩; rw [HR.out]; obtain ⟨pa, pb, pc', P⟩ := boxes3 #[.int .i64 who, .int .i64 nx, .int .i64 mt, .int .i64 pc] #[.int .i64 b.idx, .int .i64 b.trm, .int .i64 b.knd, .slice A l.length c] #[.bool false, .int .i64 0, .int .i64 0, .int .i64 0, .int .i64 0, .int .i64 0] 24 32 85 hb1; obtain ⟨ka, fa, za⟩ := pa.facts; obtain ⟨kb, fb, zb⟩ := pb.facts; obtain ⟨kc, fc, zc⟩ := pc'.facts) | (go_at_call 18; refine (at_some (matchAt b l A c (nx - 1) _ ((HS.out).later hb1) hb' HX1.out) HA.out).mono ?_; rintro e w2 ⟨rfl, hb2⟩; have Q6 := pc'.later hb2; have Q3 := pa.later hb2; have Q4 := pb.later hb2; have QP := below_call P hb2; obtain ⟨qa, ga, ya⟩ := Q3.facts; obtain ⟨qc, gc, yc⟩ := Q6.facts; obtain ⟨qb, gb, yb⟩ := Q4.facts; clear ka fa za kb fb zb kc fc zc))
      all_goals
        refine bodyPost_box ((Q6.set6 _ _ _ _ _ _).alloc _) ((below_set6 QP (n := w.heap.size + 1 + 1) (by omega) _ _ _ _ _ _).alloc (by simp only [World.size_setCell]; exact QP.size) _) ?_
        intro wz hz1 hz2
        obtain ⟨kz, -, -⟩ := hz1.facts
        refine bodyPost_ret (v := .tuple #[.agg #[.bool false, .int .i64 p.idx, .int .i64 p.trm, .int .i64 p.knd, .int .i64 nx, .int .i64 (toN b l nx many)], .nilIface]) ?_ rfl (sent_mk HF.out rfl hz2)
        first | (simp [results, Tryd.results79, go_sem, kz]; done) | (simp [results, Tryd.results79, go_sem, kz]; (rw [HT.out] <;> omega))
end Go.Proofs.YtnhodaconlodbaaDoor
