/-
  match's fitting: last, hint, fits: contracts.
-/
import Derived.Test.YthadfdpdillemaaDoorMo21
import Derived.Test.YthadfdpdillemaaDoorMo9
import Derived.Test.YthadfdpdillemaaDoorMo29
set_option linter.unusedVariables false
set_option linter.unusedSimpArgs false
namespace Go.Proofs.YthadfdpdillemaaDoor
open Go.RowKit

def misV (i h k : Int) : Value := .iface 85 (.agg #[.int .i64 i, .int .i64 h, .iface 143 (.int .i64 k)])
def whyF (b : Idt) (l : List Idt) (sh i t : Int) : Value := if fitK b l sh i t = 0 then .nilIface else misV i (fitH b l i) (fitK b l sh i t)
theorem whyF_0 {b : Idt} {l : List Idt} {sh i t : Int} (h : fitK b l sh i t = 0) : whyF b l sh i t = .nilIface := by unfold whyF; rw [if_pos h]
theorem whyF_k {b : Idt} {l : List Idt} {sh i t : Int} {k : Nat} (h : fitK b l sh i t = k) (hk : k ≠ 0) : whyF b l sh i t = misV i (fitH b l i) k := by unfold whyF; rw [if_neg (by rw [h]; exact hk), h]

theorem atS {b p : Idt} {l : List Idt} {i : Int} {w w' : World} {e : Ending} (h : atV b l i = some p) (hp : AtPost b l i w e w') : e = .returned (.tuple #[.agg #[.int .i64 p.idx, .int .i64 p.trm, .int .i64 p.knd], .bool true]) ∧ Below w.heap.size w w' := by
  unfold AtPost at hp; rw [h] at hp; exact hp
theorem atN {b : Idt} {l : List Idt} {i : Int} {w w' : World} {e : Ending} (h : atV b l i = none) (hp : AtPost b l i w e w') : e = .returned (.tuple #[.agg #[.int .i64 0, .int .i64 0, .int .i64 0], .bool false]) ∧ Below w.heap.size w w' := by
  unfold AtPost at hp; rw [h] at hp; exact hp

set_option maxHeartbeats 1000000 in
theorem fitLastE (b : Idt) (l : List Idt) (A : Option Addr) (c : Nat) (Ae : Option Addr) (ne ce : Nat) (sh : Int) (gf : Nat) (w : World) (hx : Box w gf #[.int .i64 b.idx, .int .i64 b.trm, .int .i64 b.knd, .slice A l.length c, .slice Ae ne ce, .int .i64 sh] 81) (h0 : -9223372036854775808 ≤ b.idx + (l.length : Int)) (h1 : b.idx + (l.length : Int) ≤ 9223372036854775807) :
    Calls Tryd.prog 72 #[.pointer (some ⟨gf, 0, none⟩)] w fun e w' => e = .returned (.int .i64 (lastI b l)) ∧ Below w.heap.size w w' := by
  have k0 : ∀ zw : Ext w, zw.wd.cell? ⟨gf, 0, none⟩ = some (.int .i64 b.idx) := hx.ext 0
  have k3 : ∀ zw : Ext w, zw.wd.cell? ⟨gf, 3, none⟩ = some (.slice A l.length c) := hx.ext 3
  have w1 : IntKind.i64.wrap (b.idx + (l.length : Int)) = b.idx + (l.length : Int) := IntWalk.i64_in _ (by omega)
  go_enter Tryd.func72, Tryd.ntmps72
  go_upto_region 1 with fail
  refine wp_region_ext (by kernel_rfl) (by kernel_rfl) ?_
  repeat (go_big_quiet_step (fail))
  refine wpQuiet_nil ?_
  intro _ hw'
  obtain ⟨x5, hw''⟩ := hw'
  subst hw''
  go_wp2_with fail
  go_ret
  exact ⟨rfl, x5.low⟩

set_option maxRecDepth 100000 in
set_option maxHeartbeats 2000000 in
theorem fitHint (b : Idt) (l : List Idt) (A : Option Addr) (c : Nat) (Ae : Option Addr) (ne ce : Nat) (sh : Int) (gf : Nat) (w : World) (i : Int) (hx : Box w gf #[.int .i64 b.idx, .int .i64 b.trm, .int .i64 b.knd, .slice A l.length c, .slice Ae ne ce, .int .i64 sh] 81) (h : Sl 3 idRow w.heap.size w (.slice A l.length c) l) (h0 : -9223372036854775808 ≤ b.idx + (l.length : Int)) (h1 : b.idx + (l.length : Int) ≤ 9223372036854775807) (hb : I64 b.idx) (hi : I64 i) (hbi : b.idx < i) :
    Calls Tryd.prog 73 #[.pointer (some ⟨gf, 0, none⟩), .int .i64 i] w fun e w' => e = .returned (.int .i64 (hintV b l i)) ∧ Below w.heap.size w w' := by
  have HXx := Lib.hid hx
  have HSs := Lib.hid h
  have hb' := id hb
  have hi' := id hi
  unfold I64 at hb' hi'
  have w0 : wrap64 (i - 1) = i - 1 := by unfold wrap64; omega
  clear hx h
  go_enter Tryd.func73, Tryd.ntmps73
  go_wp2_with fail
  go_loopw [1] (fun v wr => ∃ n : Nat, v = .int .i64 (b.idx + (n : Int)) ∧ b.idx + (n : Int) < i ∧ hintV b l i = hintN b l n ∧ Below w.heap.size w wr) (fun v _ => (intOf v - b.idx).toNat)
  case atStart => exact ⟨(i - b.idx - 1).toNat, by congr 1; omega, by omega, rfl, Below.refl _ _⟩
  case round =>
    obtain ⟨n, rfl, hn, hh, hB⟩ := hrel
    have HB := Lib.hid hB
    have HH := Lib.hid hh
    obtain ⟨kz, fz, zz⟩ := (HXx.out.later hB).facts
    clear hB hh
    cases n with
    | zero =>
      have d0 : decide (b.idx < b.idx + ((0 : Nat) : Int)) = false := decide_eq_false (by omega)
      have d1 : decide (b.idx < b.idx) = false := decide_eq_false (by omega)
      go_wp2_with fail
      go_ret
      refine ⟨?_, HB.out⟩
      rw [HH.out]; simp [hintN]
    | succ n =>
      have hn1 : b.idx < b.idx + ((n + 1 : Nat) : Int) := by omega
      obtain ⟨z, hz⟩ : ∃ z : Int, b.idx + ((n + 1 : Nat) : Int) = z := ⟨_, rfl⟩
      have HZ := Lib.hid hz
      rw [hz] at hn hn1
      rw [hz]
      have d0 : decide (b.idx < z) = true := decide_eq_true hn1
      have w2 : wrap64 (z - 1) = z - 1 := by unfold wrap64; omega
      have HI : I64 z := by unfold I64; omega
      cases ha : atV b l z with
      | some p =>
        have HA := Lib.hid ha
        clear ha hz
        go_wp2_with (go_at_call 14; refine (matchAt b l A c z _ (HSs.out.later HB.out) hb HI).mono ?_; rintro e w2 hp; obtain ⟨rfl, hb2⟩ := atS HA.out hp; clear hp)
        go_ret
        refine ⟨?_, below_call HB.out (below_call hb2 (below_new _ _))⟩
        have hza : (atV b l (b.idx + (n : Int) + 1)).isSome = true := by rw [show b.idx + (n : Int) + 1 = z by have := HZ.out; omega, HA.out]; rfl
        rw [HH.out, hintN, if_pos hza]
        have hzz := HZ.out
        rw [show z = b.idx + (n : Int) + 1 from by rw [← hzz]; push_cast; omega]
        rfl
      | none =>
        have HA := Lib.hid ha
        clear ha hz
        go_wp2_with (go_at_call 14; refine (matchAt b l A c z _ (HSs.out.later HB.out) hb HI).mono ?_; rintro e w2 hp; obtain ⟨rfl, hb2⟩ := atN HA.out hp; clear hp)
        go_roundw
        case rel =>
          have hza : ¬ (atV b l (b.idx + (n : Int) + 1)).isSome = true := by rw [show b.idx + (n : Int) + 1 = z by have := HZ.out; omega, HA.out]; simp
          have := HZ.out
          refine ⟨n, by congr 1; omega, by omega, ?_, below_call HB.out (below_call hb2 (below_new _ _))⟩
          rw [HH.out, hintN, if_neg hza]
        case measure => simp [intOf]; omega

set_option maxRecDepth 100000 in
set_option maxHeartbeats 4000000 in
theorem fitFits (b : Idt) (l : List Idt) (A : Option Addr) (c : Nat) (Ae : Option Addr) (ne ce : Nat) (sh : Int) (gf : Nat) (w : World) (i t : Int) (hx : Box w gf #[.int .i64 b.idx, .int .i64 b.trm, .int .i64 b.knd, .slice A l.length c, .slice Ae ne ce, .int .i64 sh] 81) (h : Sl 3 idRow w.heap.size w (.slice A l.length c) l) (h0 : -9223372036854775808 ≤ b.idx + (l.length : Int)) (h1 : b.idx + (l.length : Int) ≤ 9223372036854775807) (hb : I64 b.idx) (hi : I64 i) :
    Calls Tryd.prog 43 #[.pointer (some ⟨gf, 0, none⟩), .int .i64 i, .int .i64 t] w fun e w' => e = .returned (whyF b l sh i t) ∧ Below w.heap.size w w' := by
  have HXx := Lib.hid hx
  have HSs := Lib.hid h
  have HI := hi
  have HBb := hb
  have LA := fun (W : World) (q : Below w.heap.size w W) => fitLastE b l A c Ae ne ce sh gf W (HXx.out.later q) h0 h1
  have HH := fun (W : World) (q : Below w.heap.size w W) (hbi : b.idx < i) => fitHint b l A c Ae ne ce sh gf W i (HXx.out.later q) (HSs.out.later q) h0 h1 hb hi hbi
  have LA := Lib.hid LA
  have HH := Lib.hid HH
  obtain ⟨kx, fx, zx⟩ := hx.facts
  clear hx h
  by_cases c1 : i ≤ b.idx
  · have HK := Lib.hid (whyF_0 (fitK_low (b := b) (l := l) (sh := sh) (t := t) c1))
    obtain ⟨p, s, hps⟩ : ∃ p s, (⟨(atP (atV b l i)).idx, (atP (atV b l i)).trm, (atP (atV b l i)).knd⟩, (atV b l i).isSome) = ((p, s) : Idt × Bool) := ⟨_, _, rfl⟩
    have d1 : decide (i ≤ b.idx) = true := decide_eq_true c1
    cases ha : atV b l i with
    | some p =>
      have HA := Lib.hid ha
      clear ha hps
      go_enter Tryd.func43, Tryd.ntmps43
      go_wp2_with (go_at_call 14; refine (matchAt b l A c i _ HSs.out HBb HI).mono ?_; rintro e w2 hp; obtain ⟨rfl, hb2⟩ := atS HA.out hp; clear hp; obtain ⟨ky, fy, zy⟩ := (HXx.out.later hb2).facts)
      go_ret
      exact ⟨by rw [HK.out]; rfl, below_call hb2 (below_new _ _)⟩
    | none =>
      have HA := Lib.hid ha
      clear ha hps
      go_enter Tryd.func43, Tryd.ntmps43
      go_wp2_with (go_at_call 14; refine (matchAt b l A c i _ HSs.out HBb HI).mono ?_; rintro e w2 hp; obtain ⟨rfl, hb2⟩ := atN HA.out hp; clear hp; obtain ⟨ky, fy, zy⟩ := (HXx.out.later hb2).facts)
      go_ret
      exact ⟨by rw [HK.out]; rfl, below_call hb2 (below_new _ _)⟩
  · have d1 : decide (i ≤ b.idx) = false := decide_eq_false c1
    have hbi : b.idx < i := by omega
    by_cases c2 : lastI b l < i
    · have HK := Lib.hid (whyF_k (fitK_far (b := b) (l := l) (sh := sh) (t := t) c1 c2) (by omega))
      have HFH := Lib.hid (show fitH b l i = lastI b l by unfold fitH; rw [if_pos c2])
      obtain ⟨la, hla⟩ : ∃ la, la = lastI b l := ⟨_, rfl⟩
      have HLA := Lib.hid hla
      rw [← hla] at c2
      have d2 : decide (la < i) = true := decide_eq_true c2
      have ha : atV b l i = none := atV_out (by rw [hla] at c2; exact c2)
      have HA := Lib.hid ha
      clear ha hla
      go_enter Tryd.func43, Tryd.ntmps43
      go_wp2_with (first
        | (go_at_call 14; refine (matchAt b l A c i _ HSs.out HBb HI).mono ?_; rintro e w2 hp; obtain ⟨rfl, hb2⟩ := atN HA.out hp; clear hp; obtain ⟨ky, fy, zy⟩ := (HXx.out.later hb2).facts; have HQ := Lib.hid (below_call hb2 (below_new w2 (.cells #[.int .i64 0, .int .i64 0, .int .i64 0] 26))))
        | (go_at_call 72; refine (LA.out _ HQ.out).mono ?_; rintro e w3 ⟨rfl, hb3⟩; rw [← HLA.out]; replace HQ := Lib.hid (below_call HQ.out hb3); clear hb3))
      go_ret
      exact ⟨by rw [HK.out, HFH.out, ← HLA.out]; rfl, HQ.out⟩
    · have HFH := Lib.hid (show fitH b l i = hintV b l i by unfold fitH; rw [if_neg c2])
      have c2' := c2
      obtain ⟨la, hla⟩ : ∃ la, la = lastI b l := ⟨_, rfl⟩
      have HLA := Lib.hid hla
      rw [← hla] at c2
      have d2 : decide (la < i) = false := decide_eq_false c2
      obtain ⟨hv, hhv⟩ : ∃ v, v = hintV b l i := ⟨_, rfl⟩
      have HHV := Lib.hid hhv
      clear hla hhv
      cases ha : atV b l i with
      | some p =>
        have HA := Lib.hid ha
        by_cases c3 : p.trm = t
        · have HK := Lib.hid (whyF_0 (b := b) (l := l) (sh := sh) ((fitK_some c1 c2' ha).trans (if_pos c3)))
          have d3 : (p.trm == t) = true := by simpa using c3
          clear ha c2' c3
          go_enter Tryd.func43, Tryd.ntmps43
          go_wp2_with (first
            | (go_at_call 14; refine (matchAt b l A c i _ HSs.out HBb HI).mono ?_; rintro e w2 hp; obtain ⟨rfl, hb2⟩ := atS HA.out hp; clear hp; obtain ⟨ky, fy, zy⟩ := (HXx.out.later hb2).facts; have HQ := Lib.hid (below_call hb2 (below_new w2 (.cells #[.int .i64 p.idx, .int .i64 p.trm, .int .i64 p.knd] 26))); have HBX := Lib.hid (Box.new w2 #[.int .i64 p.idx, .int .i64 p.trm, .int .i64 p.knd] 26))
            | (go_at_call 72; refine (LA.out _ HQ.out).mono ?_; rintro e w3 ⟨rfl, hb3⟩; rw [← HLA.out]; replace HQ := Lib.hid (below_call HQ.out hb3); obtain ⟨kz, fz, zz⟩ := (HXx.out.later HQ.out).facts; obtain ⟨kw, fw, zw⟩ := (HBX.out.later hb3).facts; clear hb3))
          go_ret
          exact ⟨by rw [HK.out]; rfl, HQ.out⟩
        · have HK := Lib.hid (whyF_k (b := b) (l := l) (sh := sh) ((fitK_some c1 c2' ha).trans (if_neg c3)) (by omega))
          have d3 : (p.trm == t) = false := by simpa using c3
          clear ha c2'
          go_enter Tryd.func43, Tryd.ntmps43
          go_wp2_with (first
            | (go_at_call 14; refine (matchAt b l A c i _ HSs.out HBb HI).mono ?_; rintro e w2 hp; obtain ⟨rfl, hb2⟩ := atS HA.out hp; clear hp; obtain ⟨ky, fy, zy⟩ := (HXx.out.later hb2).facts; have HQ := Lib.hid (below_call hb2 (below_new w2 (.cells #[.int .i64 p.idx, .int .i64 p.trm, .int .i64 p.knd] 26))); have HBX := Lib.hid (Box.new w2 #[.int .i64 p.idx, .int .i64 p.trm, .int .i64 p.knd] 26))
            | (go_at_call 72; refine (LA.out _ HQ.out).mono ?_; rintro e w3 ⟨rfl, hb3⟩; rw [← HLA.out]; replace HQ := Lib.hid (below_call HQ.out hb3); obtain ⟨kz, fz, zz⟩ := (HXx.out.later HQ.out).facts; obtain ⟨kw, fw, zw⟩ := (HBX.out.later hb3).facts; clear hb3)
            | (go_at_call 73; refine (HH.out _ HQ.out hbi).mono ?_; rintro e w4 ⟨rfl, hb4⟩; rw [← HHV.out]; replace HQ := Lib.hid (below_call HQ.out hb4); clear hb4))
          go_ret
          exact ⟨by rw [HK.out, HFH.out, ← HHV.out]; rfl, HQ.out⟩
      | none =>
        have HA := Lib.hid ha
        by_cases c3 : i < sh
        · have HK := Lib.hid (whyF_0 (b := b) (l := l) (t := t) ((fitK_none c1 c2' ha).trans (if_pos c3)))
          have d3 : decide (i < sh) = true := decide_eq_true c3
          clear ha c2'
          go_enter Tryd.func43, Tryd.ntmps43
          go_wp2_with (first
            | (go_at_call 14; refine (matchAt b l A c i _ HSs.out HBb HI).mono ?_; rintro e w2 hp; obtain ⟨rfl, hb2⟩ := atN HA.out hp; clear hp; obtain ⟨ky, fy, zy⟩ := (HXx.out.later hb2).facts; have HQ := Lib.hid (below_call hb2 (below_new w2 (.cells #[.int .i64 0, .int .i64 0, .int .i64 0] 26))))
            | (go_at_call 72; refine (LA.out _ HQ.out).mono ?_; rintro e w3 ⟨rfl, hb3⟩; rw [← HLA.out]; replace HQ := Lib.hid (below_call HQ.out hb3); obtain ⟨kz, fz, zz⟩ := (HXx.out.later HQ.out).facts; clear hb3))
          go_ret
          exact ⟨by rw [HK.out]; rfl, HQ.out⟩
        · have HK := Lib.hid (whyF_k (b := b) (l := l) (t := t) ((fitK_none c1 c2' ha).trans (if_neg c3)) (by omega))
          have d3 : decide (i < sh) = false := decide_eq_false c3
          clear ha c2'
          go_enter Tryd.func43, Tryd.ntmps43
          go_wp2_with (first
            | (go_at_call 14; refine (matchAt b l A c i _ HSs.out HBb HI).mono ?_; rintro e w2 hp; obtain ⟨rfl, hb2⟩ := atN HA.out hp; clear hp; obtain ⟨ky, fy, zy⟩ := (HXx.out.later hb2).facts; have HQ := Lib.hid (below_call hb2 (below_new w2 (.cells #[.int .i64 0, .int .i64 0, .int .i64 0] 26))))
            | (go_at_call 72; refine (LA.out _ HQ.out).mono ?_; rintro e w3 ⟨rfl, hb3⟩; rw [← HLA.out]; replace HQ := Lib.hid (below_call HQ.out hb3); obtain ⟨kz, fz, zz⟩ := (HXx.out.later HQ.out).facts; clear hb3)
            | (go_at_call 73; refine (HH.out _ HQ.out hbi).mono ?_; rintro e w4 ⟨rfl, hb4⟩; rw [← HHV.out]; replace HQ := Lib.hid (below_call HQ.out hb4); clear hb4))
          go_ret
          exact ⟨by rw [HK.out, HFH.out, ← HHV.out]; rfl, HQ.out⟩
end Go.Proofs.YthadfdpdillemaaDoor
