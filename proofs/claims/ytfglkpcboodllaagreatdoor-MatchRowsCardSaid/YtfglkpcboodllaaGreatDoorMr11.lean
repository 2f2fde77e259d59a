/-
  Merged: FitS, Grow.
-/
import Derived.Test.YtfglkpcboodllaaGreatDoorMr9
import Derived.Test.YtfglkpcboodllaaGreatDoorMr5
import Derived.Test.YtfglkpcboodllaaGreatDoorMr10
import Derived.Test.YtfglkpcboodllaaGreatDoorMr4
/-
  match's fitting: last, hint, fits: contracts.
-/
set_option linter.unusedVariables false
set_option linter.unusedSimpArgs false
namespace Go.Proofs.YtfglkpcboodllaaGreatDoor
open Go.RowKit

def misV (i h k : Int) : Value := .iface 115 (.agg #[.int .i64 i, .int .i64 h, .iface 184 (.int .i64 k)])
def whyF (b : Idt) (l : List Idt) (sh i t : Int) : Value := if fitK b l sh i t = 0 then .nilIface else misV i (fitH b l i) (fitK b l sh i t)
theorem whyF_0 {b : Idt} {l : List Idt} {sh i t : Int} (h : fitK b l sh i t = 0) : whyF b l sh i t = .nilIface := by unfold whyF; rw [if_pos h]
theorem whyF_k {b : Idt} {l : List Idt} {sh i t : Int} {k : Nat} (h : fitK b l sh i t = k) (hk : k ≠ 0) : whyF b l sh i t = misV i (fitH b l i) k := by unfold whyF; rw [if_neg (by rw [h]; exact hk), h]

theorem atS {b p : Idt} {l : List Idt} {i : Int} {w w' : World} {e : Ending} (h : atV b l i = some p) (hp : AtPost b l i w e w') : e = .returned (.tuple #[.agg #[.int .i64 p.idx, .int .i64 p.trm, .int .i64 p.knd], .bool true]) ∧ Below w.heap.size w w' := by
  unfold AtPost at hp; rw [h] at hp; exact hp
theorem atN {b : Idt} {l : List Idt} {i : Int} {w w' : World} {e : Ending} (h : atV b l i = none) (hp : AtPost b l i w e w') : e = .returned (.tuple #[.agg #[.int .i64 0, .int .i64 0, .int .i64 0], .bool false]) ∧ Below w.heap.size w w' := by
  unfold AtPost at hp; rw [h] at hp; exact hp

set_option maxHeartbeats 1000000 in
theorem fitLastE (b : Idt) (l : List Idt) (A : Option Addr) (c : Nat) (Ae : Option Addr) (ne ce : Nat) (sh : Int) (gf : Nat) (w : World) (hx : Box w gf #[.int .i64 b.idx, .int .i64 b.trm, .int .i64 b.knd, .slice A l.length c, .slice Ae ne ce, .int .i64 sh] 111) (h0 : -9223372036854775808 ≤ b.idx + (l.length : Int)) (h1 : b.idx + (l.length : Int) ≤ 9223372036854775807) :
    Calls Tryz.prog 123 #[.pointer (some ⟨gf, 0, none⟩)] w fun e w' => e = .returned (.int .i64 (lastI b l)) ∧ Below w.heap.size w w' := by
  have k0 : ∀ zw : Ext w, zw.wd.cell? ⟨gf, 0, none⟩ = some (.int .i64 b.idx) := hx.ext 0
  have k3 : ∀ zw : Ext w, zw.wd.cell? ⟨gf, 3, none⟩ = some (.slice A l.length c) := hx.ext 3
  have w1 : IntKind.i64.wrap (b.idx + (l.length : Int)) = b.idx + (l.length : Int) := IntWalk.i64_in _ (by omega)
  go_enter Tryz.func123, Tryz.ntmps123
  go_upto_region 1 with fail
  refine wp_region_ext (by kernel_rfl) (by kernel_rfl) ?_
  repeat (go_big_quiet_step (fail))
  refine wpQuiet_nil ?_
  intro _ hw'
  obtain ⟨x5, hw''⟩ := hw'
  subst hw''
  go_wp2_with fail
  go_ret
  exact ⟨rfl, x5.low⟩

set_option maxRecDepth 100000 in
set_option maxHeartbeats 2000000 in
theorem fitHint (b : Idt) (l : List Idt) (A : Option Addr) (c : Nat) (Ae : Option Addr) (ne ce : Nat) (sh : Int) (gf : Nat) (w : World) (i : Int) (hx : Box w gf #[.int .i64 b.idx, .int .i64 b.trm, .int .i64 b.knd, .slice A l.length c, .slice Ae ne ce, .int .i64 sh] 111) (h : Sl 3 idRow w.heap.size w (.slice A l.length c) l) (h0 : -9223372036854775808 ≤ b.idx + (l.length : Int)) (h1 : b.idx + (l.length : Int) ≤ 9223372036854775807) (hb : I64 b.idx) (hi : I64 i) (hbi : b.idx < i) :
    Calls Tryz.prog 124 #[.pointer (some ⟨gf, 0, none⟩), .int .i64 i] w fun e w' => e = .returned (.int .i64 (hintV b l i)) ∧ Below w.heap.size w w' := by
  have HXx := Lib.hid hx
  have HSs := Lib.hid h
  have hb' := id hb
  have hi' := id hi
  unfold I64 at hb' hi'
  have w0 : wrap64 (i - 1) = i - 1 := by unfold wrap64; omega
  clear hx h
  go_enter Tryz.func124, Tryz.ntmps124
  go_wp2_with fail
  go_loopw [1] (fun v wr => ∃ n : Nat, v = .int .i64 (b.idx + (n : Int)) ∧ b.idx + (n : Int) < i ∧ hintV b l i = hintN b l n ∧ Below w.heap.size w wr) (fun v _ => (intOf v - b.idx).toNat)
  case atStart => exact ⟨(i - b.idx - 1).toNat, by congr 1; omega, by omega, rfl, Below.refl _ _⟩
  case round =>
    obtain ⟨n, rfl, hn, hh, hB⟩ := hrel
    have HB := Lib.hid hB
    have HH := Lib.hid hh
    obtain ⟨kz, fz, zz⟩ := (HXx.out.later hB).facts
    clear hB hh
    cases n with
    | zero =>
      have d0 : decide (b.idx < b.idx + ((0 : Nat) : Int)) = false := decide_eq_false (by omega)
      have d1 : decide (b.idx < b.idx) = false := decide_eq_false (by omega)
      go_wp2_with fail
      go_ret
      refine ⟨?_, HB.out⟩
      rw [HH.out]; simp [hintN]
    | succ n =>
      have hn1 : b.idx < b.idx + ((n + 1 : Nat) : Int) := by omega
      obtain ⟨z, hz⟩ : ∃ z : Int, b.idx + ((n + 1 : Nat) : Int) = z := ⟨_, rfl⟩
      have HZ := Lib.hid hz
      rw [hz] at hn hn1
      rw [hz]
      have d0 : decide (b.idx < z) = true := decide_eq_true hn1
      have w2 : wrap64 (z - 1) = z - 1 := by unfold wrap64; omega
      have HI : I64 z := by unfold I64; omega
      cases ha : atV b l z with
      | some p =>
        have HA := Lib.hid ha
        clear ha hz
        go_wp2_with (go_at_call 19; refine (matchAt b l A c z _ (HSs.out.later HB.out) hb HI).mono ?_; rintro e w2 hp; obtain ⟨rfl, hb2⟩ := atS HA.out hp; clear hp)
        go_ret
        refine ⟨?_, below_call HB.out (below_call hb2 (below_new _ _))⟩
        have hza : (atV b l (b.idx + (n : Int) + 1)).isSome = true := by rw [show b.idx + (n : Int) + 1 = z by have := HZ.out; omega, HA.out]; rfl
        rw [HH.out, hintN, if_pos hza]
        have hzz := HZ.out
        rw [show z = b.idx + (n : Int) + 1 from by rw [← hzz]; push_cast; omega]
        rfl
      | none =>
        have HA := Lib.hid ha
        clear ha hz
        go_wp2_with (go_at_call 19; refine (matchAt b l A c z _ (HSs.out.later HB.out) hb HI).mono ?_; rintro e w2 hp; obtain ⟨rfl, hb2⟩ := atN HA.out hp; clear hp)
        go_roundw
        case rel =>
          have hza : ¬ (atV b l (b.idx + (n : Int) + 1)).isSome = true := by rw [show b.idx + (n : Int) + 1 = z by have := HZ.out; omega, HA.out]; simp
          have := HZ.out
          refine ⟨n, by congr 1; omega, by omega, ?_, below_call HB.out (below_call hb2 (below_new _ _))⟩
          rw [HH.out, hintN, if_neg hza]
        case measure => simp [intOf]; omega

set_option maxRecDepth 100000 in
set_option maxHeartbeats 4000000 in
theorem fitFits (b : Idt) (l : List Idt) (A : Option Addr) (c : Nat) (Ae : Option Addr) (ne ce : Nat) (sh : Int) (gf : Nat) (w : World) (i t : Int) (hx : Box w gf #[.int .i64 b.idx, .int .i64 b.trm, .int .i64 b.knd, .slice A l.length c, .slice Ae ne ce, .int .i64 sh] 111) (h : Sl 3 idRow w.heap.size w (.slice A l.length c) l) (h0 : -9223372036854775808 ≤ b.idx + (l.length : Int)) (h1 : b.idx + (l.length : Int) ≤ 9223372036854775807) (hb : I64 b.idx) (hi : I64 i) :
    Calls Tryz.prog 81 #[.pointer (some ⟨gf, 0, none⟩), .int .i64 i, .int .i64 t] w fun e w' => e = .returned (whyF b l sh i t) ∧ Below w.heap.size w w' := by
  have HXx := Lib.hid hx
  have HSs := Lib.hid h
  have HI := hi
  have HBb := hb
  have LA := fun (W : World) (q : Below w.heap.size w W) => fitLastE b l A c Ae ne ce sh gf W (HXx.out.later q) h0 h1
  have HH := fun (W : World) (q : Below w.heap.size w W) (hbi : b.idx < i) => fitHint b l A c Ae ne ce sh gf W i (HXx.out.later q) (HSs.out.later q) h0 h1 hb hi hbi
  have LA := Lib.hid LA
  have HH := Lib.hid HH
  obtain ⟨kx, fx, zx⟩ := hx.facts
  clear hx h
  by_cases c1 : i ≤ b.idx
  · have HK := Lib.hid (whyF_0 (fitK_low (b := b) (l := l) (sh := sh) (t := t) c1))
    obtain ⟨p, s, hps⟩ : ∃ p s, (⟨(atP (atV b l i)).idx, (atP (atV b l i)).trm, (atP (atV b l i)).knd⟩, (atV b l i).isSome) = ((p, s) : Idt × Bool) := ⟨_, _, rfl⟩
    have d1 : decide (i ≤ b.idx) = true := decide_eq_true c1
    cases ha : atV b l i with
    | some p =>
      have HA := Lib.hid ha
      clear ha hps
      go_enter Tryz.func81, Tryz.ntmps81
      go_wp2_with (go_at_call 19; refine (matchAt b l A c i _ HSs.out HBb HI).mono ?_; rintro e w2 hp; obtain ⟨rfl, hb2⟩ := atS HA.out hp; clear hp; obtain ⟨ky, fy, zy⟩ := (HXx.out.later hb2).facts)
      go_ret
      exact ⟨by rw [HK.out]; rfl, below_call hb2 (below_new _ _)⟩
    | none =>
      have HA := Lib.hid ha
      clear ha hps
      go_enter Tryz.func81, Tryz.ntmps81
      go_wp2_with (go_at_call 19; refine (matchAt b l A c i _ HSs.out HBb HI).mono ?_; rintro e w2 hp; obtain ⟨rfl, hb2⟩ := atN HA.out hp; clear hp; obtain ⟨ky, fy, zy⟩ := (HXx.out.later hb2).facts)
      go_ret
      exact ⟨by rw [HK.out]; rfl, below_call hb2 (below_new _ _)⟩
  · have d1 : decide (i ≤ b.idx) = false := decide_eq_false c1
    have hbi : b.idx < i := by omega
    by_cases c2 : lastI b l < i
    · have HK := Lib.hid (whyF_k (fitK_far (b := b) (l := l) (sh := sh) (t := t) c1 c2) (by omega))
      have HFH := Lib.hid (show fitH b l i = lastI b l by unfold fitH; rw [if_pos c2])
      obtain ⟨la, hla⟩ : ∃ la, la = lastI b l := ⟨_, rfl⟩
      have HLA := Lib.hid hla
      rw [← hla] at c2
      have d2 : decide (la < i) = true := decide_eq_true c2
      have ha : atV b l i = none := atV_out (by rw [hla] at c2; exact c2)
      have HA := Lib.hid ha
      clear ha hla
      go_enter Tryz.func81, Tryz.ntmps81
      go_wp2_with (first
        | (go_at_call 19; refine (matchAt b l A c i _ HSs.out HBb HI).mono ?_; rintro e w2 hp; obtain ⟨rfl, hb2⟩ := atN HA.out hp; clear hp; obtain ⟨ky, fy, zy⟩ := (HXx.out.later hb2).facts; have HQ := Lib.hid (below_call hb2 (below_new w2 (.cells #[.int .i64 0, .int .i64 0, .int .i64 0] 25))))
        | (go_at_call 123; refine (LA.out _ HQ.out).mono ?_; rintro e w3 ⟨rfl, hb3⟩; rw [← HLA.out]; replace HQ := Lib.hid (below_call HQ.out hb3); clear hb3))
      go_ret
      exact ⟨by rw [HK.out, HFH.out, ← HLA.out]; rfl, HQ.out⟩
    · have HFH := Lib.hid (show fitH b l i = hintV b l i by unfold fitH; rw [if_neg c2])
      have c2' := c2
      obtain ⟨la, hla⟩ : ∃ la, la = lastI b l := ⟨_, rfl⟩
      have HLA := Lib.hid hla
      rw [← hla] at c2
      have d2 : decide (la < i) = false := decide_eq_false c2
      obtain ⟨hv, hhv⟩ : ∃ v, v = hintV b l i := ⟨_, rfl⟩
      have HHV := Lib.hid hhv
      clear hla hhv
      cases ha : atV b l i with
      | some p =>
        have HA := Lib.hid ha
        by_cases c3 : p.trm = t
        · have HK := Lib.hid (whyF_0 (b := b) (l := l) (sh := sh) ((fitK_some c1 c2' ha).trans (if_pos c3)))
          have d3 : (p.trm == t) = true := by simpa using c3
          clear ha c2' c3
          go_enter Tryz.func81, Tryz.ntmps81
          go_wp2_with (first
            | (go_at_call 19; refine (matchAt b l A c i _ HSs.out HBb HI).mono ?_; rintro e w2 hp; obtain ⟨rfl, hb2⟩ := atS HA.out hp; clear hp; obtain ⟨ky, fy, zy⟩ := (HXx.out.later hb2).facts; have HQ := Lib.hid (below_call hb2 (below_new w2 (.cells #[.int .i64 p.idx, .int .i64 p.trm, .int .i64 p.knd] 25))); have HBX := Lib.hid (Box.new w2 #[.int .i64 p.idx, .int .i64 p.trm, .int .i64 p.knd] 25))
            | (go_at_call 123; refine (LA.out _ HQ.out).mono ?_; rintro e w3 ⟨rfl, hb3⟩; rw [← HLA.out]; replace HQ := Lib.hid (below_call HQ.out hb3); obtain ⟨kz, fz, zz⟩ := (HXx.out.later HQ.out).facts; obtain ⟨kw, fw, zw⟩ := (HBX.out.later hb3).facts; clear hb3))
          go_ret
          exact ⟨by rw [HK.out]; rfl, HQ.out⟩
        · have HK := Lib.hid (whyF_k (b := b) (l := l) (sh := sh) ((fitK_some c1 c2' ha).trans (if_neg c3)) (by omega))
          have d3 : (p.trm == t) = false := by simpa using c3
          clear ha c2'
          go_enter Tryz.func81, Tryz.ntmps81
          go_wp2_with (first
            | (go_at_call 19; refine (matchAt b l A c i _ HSs.out HBb HI).mono ?_; rintro e w2 hp; obtain ⟨rfl, hb2⟩ := atS HA.out hp; clear hp; obtain ⟨ky, fy, zy⟩ := (HXx.out.later hb2).facts; have HQ := Lib.hid (below_call hb2 (below_new w2 (.cells #[.int .i64 p.idx, .int .i64 p.trm, .int .i64 p.knd] 25))); have HBX := Lib.hid (Box.new w2 #[.int .i64 p.idx, .int .i64 p.trm, .int .i64 p.knd] 25))
            | (go_at_call 123; refine (LA.out _ HQ.out).mono ?_; rintro e w3 ⟨rfl, hb3⟩; rw [← HLA.out]; replace HQ := Lib.hid (below_call HQ.out hb3); obtain ⟨kz, fz, zz⟩ := (HXx.out.later HQ.out).facts; obtain ⟨kw, fw, zw⟩ := (HBX.out.later hb3).facts; clear hb3)
            | (go_at_call 124; refine (HH.out _ HQ.out hbi).mono ?_; rintro e w4 ⟨rfl, hb4⟩; rw [← HHV.out]; replace HQ := Lib.hid (below_call HQ.out hb4); clear hb4))
          go_ret
          exact ⟨by rw [HK.out, HFH.out, ← HHV.out]; rfl, HQ.out⟩
      | none =>
        have HA := Lib.hid ha
        by_cases c3 : i < sh
        · have HK := Lib.hid (whyF_0 (b := b) (l := l) (t := t) ((fitK_none c1 c2' ha).trans (if_pos c3)))
          have d3 : decide (i < sh) = true := decide_eq_true c3
          clear ha c2'
          go_enter Tryz.func81, Tryz.ntmps81
          go_wp2_with (first
            | (go_at_call 19; refine (matchAt b l A c i _ HSs.out HBb HI).mono ?_; rintro e w2 hp; obtain ⟨rfl, hb2⟩ := atN HA.out hp; clear hp; obtain ⟨ky, fy, zy⟩ := (HXx.out.later hb2).facts; have HQ := Lib.hid (below_call hb2 (below_new w2 (.cells #[.int .i64 0, .int .i64 0, .int .i64 0] 25))))
            | (go_at_call 123; refine (LA.out _ HQ.out).mono ?_; rintro e w3 ⟨rfl, hb3⟩; rw [← HLA.out]; replace HQ := Lib.hid (below_call HQ.out hb3); obtain ⟨kz, fz, zz⟩ := (HXx.out.later HQ.out).facts; clear hb3))
          go_ret
          exact ⟨by rw [HK.out]; rfl, HQ.out⟩
        · have HK := Lib.hid (whyF_k (b := b) (l := l) (t := t) ((fitK_none c1 c2' ha).trans (if_neg c3)) (by omega))
          have d3 : decide (i < sh) = false := decide_eq_false c3
          clear ha c2'
          go_enter Tryz.func81, Tryz.ntmps81
          go_wp2_with (first
            | (go_at_call 19; refine (matchAt b l A c i _ HSs.out HBb HI).mono ?_; rintro e w2 hp; obtain ⟨rfl, hb2⟩ := atN HA.out hp; clear hp; obtain ⟨ky, fy, zy⟩ := (HXx.out.later hb2).facts; have HQ := Lib.hid (below_call hb2 (below_new w2 (.cells #[.int .i64 0, .int .i64 0, .int .i64 0] 25))))
            | (go_at_call 123; refine (LA.out _ HQ.out).mono ?_; rintro e w3 ⟨rfl, hb3⟩; rw [← HLA.out]; replace HQ := Lib.hid (below_call HQ.out hb3); obtain ⟨kz, fz, zz⟩ := (HXx.out.later HQ.out).facts; clear hb3)
            | (go_at_call 124; refine (HH.out _ HQ.out hbi).mono ?_; rintro e w4 ⟨rfl, hb4⟩; rw [← HHV.out]; replace HQ := Lib.hid (below_call HQ.out hb4); clear hb4))
          go_ret
          exact ⟨by rw [HK.out, HFH.out, ← HHV.out]; rfl, HQ.out⟩
end Go.Proofs.YtfglkpcboodllaaGreatDoor
/-
  APPEND, AND WHAT THE ELDER SLICE READS behind it: world lemmas that name no program.
-/
set_option linter.unusedVariables false
namespace Go.Proofs.YtfglkpcboodllaaGreatDoor
open Go.RowKit

/-- Behind an append, the slice that was appended to still owns its row: its block was grown in place, or left. -/
theorem elder_owns {P : Program} (w : World) (base : Nat) (t ty e : TypeId) (i : TypeInfo) (z : Value) (size bytes : Nat) (ht : P.underlying t = some (.slice e)) (hi : P.info? e = some i) (hz : i.zero = some z)
    (hsize : i.size = size) (hby : i.bytes = bytes) (hzs : z.cells.size = size) (hsz : 0 < size)
    (v : Value) (n : Nat) (xs : List Value) (hown : w.ownsRow base e size v n xs)
    (a : Addr) (m c : Nat) (news : List Value) (hl : news.length = m * size) (hnews : ∀ j u, news[j]? = some u → w.cell? (a.add j) = some u) (h1 : ∀ u ∈ news, u.oneCell' = true)
    (h63 : n + m ≤ maxLen) (hbytes : (n + m) * bytes ≤ 140737488355328)
    {g cap : Nat} {w' : World} (hr : (Builtin.append_ #[t, t] ty #[v, .slice (some a) m c]).run P w = .ok (.slice (some ⟨g, 0, none⟩) (n + m) cap) w')
    (hnew : w'.ownsRow base e size (.slice (some ⟨g, 0, none⟩) (n + m) cap) (n + m) (xs ++ news)) : w'.ownsRow base e size v n xs := by
  subst hsize
  subst hby
  obtain ⟨hxl, hv⟩ := id hown
  rcases hv with ⟨rfl, rfl⟩ | ⟨g0, cap0, cur, rfl, hbg, hg, hnc, hcm, hcs, htake⟩
  · exact ⟨hxl, .inl ⟨rfl, rfl⟩⟩
  · have hsmall : n + m ≤ 9223372036854775807 := by simp only [maxLen] at h63; omega
    by_cases hroom : n + m ≤ cap0
    · have hfit : n * i.size + news.length ≤ cur.size := by rw [hl, hcs, ← Nat.add_mul]; exact Nat.mul_le_mul_right _ hroom
      have hr2 := run_append_room (P := P) w t ty e i ht hi g0 n cap0 cur hg a m c news hl hnews h1 hroom hfit
      rw [hr2] at hr
      simp only [Result.ok.injEq, Value.slice.injEq, Option.some.injEq, Addr.mk.injEq, and_true, true_and] at hr
      obtain ⟨⟨rfl, rfl⟩, -⟩ := hr
      refine ⟨hxl, .inr ?_⟩
      rcases hnew.2 with ⟨hbad, _⟩ | ⟨g2, cap2, cur2, hv2, hb2, hh2, hn2, hm2, hs2, ht2⟩
      · simp at hbad
      · simp only [Value.slice.injEq, Option.some.injEq, Addr.mk.injEq, and_true, true_and] at hv2
        obtain ⟨rfl, rfl⟩ := hv2
        refine ⟨g0, cap0, cur2, rfl, hb2, hh2, hnc, hcm, hs2, ?_⟩
        have h3 : (cur2.toList.take ((n + m) * i.size)).take (n * i.size) = cur2.toList.take (n * i.size) := by
          rw [List.take_take, Nat.min_eq_left (Nat.mul_le_mul_right _ (by omega))]
        rw [← h3, ht2, ← hxl, List.take_left]
    · have holds : ∀ j u, xs[j]? = some u → w.cell? ((⟨g0, 0, none⟩ : Addr).add j) = some u := hown.cells (g := g0) rfl
      have hr2 := run_append_grow (P := P) w t ty e i z ht hi hz ⟨g0, 0, none⟩ n cap0 xs hxl holds a m c news hl hnews (by omega) (by omega) (growslice_fits (by omega) hbytes)
      rw [hr2] at hr
      simp only [Result.ok.injEq] at hr
      obtain ⟨-, rfl⟩ := hr
      exact World.ownsRow.alloc (w := w.drew) hown _

section
variable {α : Type} {k : Nat} {row : α → List Value} {B B' : Nat} {w w' : World} {v : Value} {l : List α}

/-- 'out = append(s, l2...)', s an owned slice, l2 rows that lie at an address: what it tells, what s reads then, what else stays. -/
theorem wpList_append_keep {P : Program} (w : World) {ops : Array Oper} {rest : List Oper} {o : Oper} {a : Act} {Q : Exit → Act → World → Prop} (hgd : o.guard = none) (s y : Operand) (t : TypeId)
    (ho : o.op = .call { callee := .builtin .append, args := #[s, y], argTypes := #[t, t] })
    (base : Nat) (e : TypeId) (z : Value) (k bytes : Nat) (ht : P.underlying t = some (.slice e)) (hinfo : (P.info? e).map (fun i => (i.zero, i.size, i.bytes)) = some (some z, k, bytes)) (hzs : z.cells.size = k) (hk0 : 0 < k)
    (row : α → List Value) (hrow : ∀ x, (row x).length = k) (hone : ∀ x, ∀ u ∈ row x, u.oneCell' = true)
    (l : List α) (v : Value) (hs : a.eval s = v) (hown : Own k row e base w v l) (l2 : List α) (ad : Addr) (c : Nat) (hy : a.eval y = .slice (some ad) l2.length c)
    (hnews : ∀ j u, (l2.flatMap row)[j]? = some u → w.cell? (ad.add j) = some u) (hm : 0 < l2.length)
    (h63 : l.length + l2.length ≤ maxLen) (hbytes : (l.length + l2.length) * bytes ≤ 140737488355328) (hbase : base ≤ w.heap.size)
    (h : ∀ g cap w', Own k row e base w' (.slice (some ⟨g, 0, none⟩) (l.length + l2.length) cap) (l ++ l2) → Own k row e base w' v l → Below base w w' → (∀ b, b < w.heap.size → some b ≠ v.ownBlock → w'.heap[b]? = w.heap[b]?) →
      (v.ownBlock = some g ∨ g = w.heap.size) → g < w'.heap.size → w.heap.size ≤ w'.heap.size → wpList P ops Q rest (a.put o.dst (.slice (some ⟨g, 0, none⟩) (l.length + l2.length) cap)) w') :
    wpList P ops Q (o :: rest) a w := by
  obtain ⟨i, hi, hz, hsz, hby⟩ := info_parts hinfo
  refine wpList_plain hgd fun K hK => ?_
  have hl : (l2.flatMap row).length = l2.length * k := flat_length hrow l2
  have h1 : ∀ u ∈ l2.flatMap row, u.oneCell' = true := by
    intro u hu
    obtain ⟨x, _, hx⟩ := List.mem_flatMap.1 hu
    exact hone x u hx
  obtain ⟨g, cap, w', hr, h2, h3, h4, h5⟩ := run_append_lies (P := P) w t o.type base e i z k bytes ht hi hz hsz hby hzs hk0 v l.length (l.flatMap row) hown ad l2.length c (l2.flatMap row) hl hnews h1 hm h63 hbytes hbase w.heap.size rfl
  have h6 := elder_owns (P := P) w base t o.type e i z k bytes ht hi hz hsz hby hzs hk0 v l.length (l.flatMap row) hown ad l2.length c (l2.flatMap row) hl hnews h1 h63 hbytes hr h2
  have hb : ∀ g, v.ownBlock = some g → base ≤ g := fun g hg => (World.ownsRow.lt hown g hg).1
  unfold Oper.wp execOp
  simp only [ho, resolve, invoke, builtin, Sem.run_bind, Sem.run_pure, Result.andThen_ok, List.map_toArray, List.map_cons, List.map_nil, hs, hy, hr]
  exact hK _ _ (h g cap w' (by unfold Own; rw [List.flatMap_append, List.length_append]; exact h2) h6 ((Below.refl base w).grown h3 hbase hb) (fun b hb' hne => h3.block b hb' hne) h4 h5 h3.size)

/-- 'out = append(s, x)', x a row of k cells that lies in the newest block. -/
theorem wpList_append_keep1 {P : Program} (w0 : World) {ops : Array Oper} {rest : List Oper} {o : Oper} {a : Act} {Q : Exit → Act → World → Prop} (hgd : o.guard = none) (s y : Operand) (t : TypeId)
    (ho : o.op = .call { callee := .builtin .append, args := #[s, y], argTypes := #[t, t] })
    (base : Nat) (e : TypeId) (z : Value) (k bytes : Nat) (ht : P.underlying t = some (.slice e)) (hinfo : (P.info? e).map (fun i => (i.zero, i.size, i.bytes)) = some (some z, k, bytes)) (hzs : z.cells.size = k) (hk0 : 0 < k)
    (row : α → List Value) (hrow : ∀ x, (row x).length = k) (hone : ∀ x, ∀ u ∈ row x, u.oneCell' = true)
    (l : List α) (v : Value) (hs : a.eval s = v) (hown : Own k row e base w0 v l) (x : α) (cells : Array Value) (hcells : cells = (row x).toArray) (e' : TypeId) (n0 : Nat) (hy : a.eval y = .slice (some ⟨n0, 0, none⟩) 1 1) (hn0 : n0 = w0.heap.size)
    (hlen : l.length + 1 ≤ 4294967296) (hbytes : bytes ≤ 4096) (hbase : base ≤ w0.heap.size)
    (h : ∀ g cap w', Own k row e base w' (.slice (some ⟨g, 0, none⟩) (l.length + 1) cap) (l ++ [x]) → Own k row e base w' v l → Below base w0 w' → (∀ b, b < w0.heap.size → some b ≠ v.ownBlock → w'.heap[b]? = w0.heap[b]?) →
      (v.ownBlock = some g ∨ w0.heap.size < g) → g < w'.heap.size → w0.heap.size < w'.heap.size → wpList P ops Q rest (a.put o.dst (.slice (some ⟨g, 0, none⟩) (l.length + 1) cap)) w') :
    wpList P ops Q (o :: rest) a (w0.alloc (.cells cells e')) := by
  subst hcells
  subst hn0
  refine wpList_append_keep (w0.alloc (.cells (row x).toArray e')) hgd s y t ho base e z k bytes ht hinfo hzs hk0 row hrow hone l v hs (hown.alloc _) [x] ⟨w0.heap.size, 0, none⟩ 1 hy ?_ (by simp) (by unfold maxLen; simp; omega) ?_ (by simp; omega) ?_
  · intro j u hu
    rw [Addr.add_lit, Nat.zero_add, World.cell?_alloc_new]
    simpa using hu
  · calc (l.length + [x].length) * bytes ≤ 4294967296 * 4096 := Nat.mul_le_mul (by simpa using hlen) hbytes
      _ ≤ 140737488355328 := by omega
  · intro g cap w' p1 p2 p3 p4 p5 p6 p7
    simp only [List.length_singleton] at p1 ⊢
    simp only [World.size_alloc] at p4 p5 p7
    exact h g cap w' p1 p2 (((Below.refl base w0).alloc hbase _).trans p3) (fun b hb hne => (p4 b (by omega) hne).trans (Below.heap_alloc w0 _ b hb)) (p5.imp id fun h => by omega) p6 (by omega)
end
end Go.Proofs.YtfglkpcboodllaaGreatDoor
