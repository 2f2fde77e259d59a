/-
  limpetlaw17's EntryOrders: true.
-/
import Derived.Test.YtonidklmnecamaaDoorEntAwake2
import Derived.Test.YtonidklmnecamaaDoorKitSameInts
set_option linter.unusedVariables false
set_option linter.unusedSimpArgs false
namespace Go.Proofs.YtonidklmnecamaaDoor
open Go.RowKit

theorem sameIntsB (l : List Int) (v v' : Value) (w : World) (h : Sl 1 i64Row w.heap.size w v l) (h' : Sl 1 i64Row w.heap.size w v' l) :
    Calls Tryd.prog 17 #[v, v'] w fun e w' => e = .returned (.bool true) ∧ Below w.heap.size w w' :=
  (sameInts l v v' w h h').mono fun _ _ ⟨he, n, hn⟩ => ⟨he, by subst hn; exact below_drewN (Below.refl _ _) n⟩
theorem memOk_of {ms : List Int} (h : memRight ms = true) : memOk ms = true := by unfold memOk; rw [h, decide_eq_true (memRight_short h)]; rfl
theorem memRight_of {ms : List Int} (h : memOk ms = true) : memRight ms = true := by unfold memOk at h; simp only [Bool.and_eq_true] at h; exact h.2
theorem byte_of {ms : List Int} (h : memRight ms = true) : ∀ x ∈ ms, 0 ≤ x ∧ x ≤ 255 := by
  intro x hx
  obtain ⟨i, hi⟩ := List.getElem?_of_mem hx
  simp only [memRight, Bool.and_eq_true] at h
  have := memFrom_at h.1 hi
  omega
def sameI (a b : Idt) : Bool := (a.trm == b.trm) && (a.idx == b.idx)

set_option maxRecDepth 100000 in
set_option maxHeartbeats 1000000 in
theorem orders_big (a b c : Idt) (ms bs : List Int) (vm vb : Value) (w : World) (hm : Sl 1 i64Row w.heap.size w vm ms) (hb : Sl 1 u8Row w.heap.size w vb bs) (hbb : ∀ x ∈ bs, 0 ≤ x ∧ x ≤ 255) (hG : errTypeIs w) (hbig : 4000 < ms.length + bs.length) (z1 : ms.length ≤ 140737488351232) (z2 : bs.length ≤ 140737488351232) :
    Calls Tryd.prog 6 #[.agg #[.int .i64 a.idx, .int .i64 a.trm, .int .i64 a.knd], .agg #[.int .i64 b.idx, .int .i64 b.trm, .int .i64 b.knd], .agg #[.int .i64 c.idx, .int .i64 c.trm, .int .i64 c.knd], vm, vb] w fun e w' => e = .returned (.bool true) ∧ Below w.heap.size w w' := by
  have hg : (4000 : Int) < (ms.length : Int) + (bs.length : Int) := by omega
  have HG := Lib.hid hG
  have HM := Lib.hid hm
  have HBS := Lib.hid hb
  have HBB := Lib.hid hbb
  obtain ⟨Am, cm, rfl, -⟩ := id hm
  obtain ⟨Ab, cb, rfl, -⟩ := id hb
  clear hG hm hb hbb
  go_enter Tryd.func6, Tryd.ntmps6
  go_wp2_with (go_at_call 7; refine (awake _ (errType_later HG.out (below_call (below_call (below_new _ _) (below_new _ _)) (below_new _ _)))).mono ?_; rintro e w1 ⟨rfl, hb1⟩; obtain ⟨p0, p1, p2, P⟩ := boxes3 #[.int .i64 a.idx, .int .i64 a.trm, .int .i64 a.knd] #[.int .i64 b.idx, .int .i64 b.trm, .int .i64 b.knd] #[.int .i64 c.idx, .int .i64 c.trm, .int .i64 c.knd] 42 42 42 hb1; obtain ⟨k0, -, q0⟩ := p0.facts; obtain ⟨k1, -, q1⟩ := p1.facts; clear hb1)
  go_ret
  exact ⟨rfl, P⟩

set_option maxRecDepth 100000 in
set_option maxHeartbeats 4000000 in
theorem orders_same (a b c : Idt) (ms bs : List Int) (vm vb : Value) (w : World) (hm : Sl 1 i64Row w.heap.size w vm ms) (hb : Sl 1 u8Row w.heap.size w vb bs) (hbb : ∀ x ∈ bs, 0 ≤ x ∧ x ≤ 255) (hG : errTypeIs w) (hsm : ms.length + bs.length ≤ 4000) (hs : sameI a b = true) (haa : olderI a a = false) (hab : olderI a b = false) (hba : olderI b a = false) :
    Calls Tryd.prog 6 #[.agg #[.int .i64 a.idx, .int .i64 a.trm, .int .i64 a.knd], .agg #[.int .i64 b.idx, .int .i64 b.trm, .int .i64 b.knd], .agg #[.int .i64 c.idx, .int .i64 c.trm, .int .i64 c.knd], vm, vb] w fun e w' => e = .returned (.bool true) ∧ Below w.heap.size w w' := by
  have hg : (ms.length : Int) + (bs.length : Int) ≤ 4000 := by omega
  have HS := Lib.hid hs
  have HAA := Lib.hid haa
  have HAB := Lib.hid hab
  have HBA := Lib.hid hba
  clear hs haa hab hba
  have HG := Lib.hid hG
  have HM := Lib.hid hm
  have HBS := Lib.hid hb
  have HBB := Lib.hid hbb
  obtain ⟨Am, cm, rfl, -⟩ := id hm
  obtain ⟨Ab, cb, rfl, -⟩ := id hb
  clear hG hm hb hbb
  go_enter Tryd.func6, Tryd.ntmps6
  go_upto_region 5 with (go_at_call 7; refine (awake _ (errType_later HG.out (below_call (below_call (below_new _ _) (below_new _ _)) (below_new _ _)))).mono ?_; rintro e w1 ⟨rfl, hb1⟩; obtain ⟨p0, p1, p2, P⟩ := boxes3 #[.int .i64 a.idx, .int .i64 a.trm, .int .i64 a.knd] #[.int .i64 b.idx, .int .i64 b.trm, .int .i64 b.knd] #[.int .i64 c.idx, .int .i64 c.trm, .int .i64 c.knd] 42 42 42 hb1; obtain ⟨k0, -, q0⟩ := p0.facts; obtain ⟨k1, -, q1⟩ := p1.facts; clear hb1)
  go_cut [11] (fun v wx => v = .bool true ∧ wx = w1)
  case first =>
    have e0 : ((a.trm == b.trm) && (a.idx == b.idx)) = true := HS.out
    simp only [Bool.and_eq_true] at e0
    obtain ⟨e1, e2⟩ := e0
    go_wp2_with fail
    go_meet
    exact ⟨rfl, rfl⟩
  case rest =>
    obtain ⟨rfl, rfl⟩ := hcut
    have ka0 : ∀ zw : Ext wc, zw.wd.cell? ⟨w.heap.size, 0, none⟩ = some (.int .i64 a.idx) := p0.ext 0
    have ka1 : ∀ zw : Ext wc, zw.wd.cell? ⟨w.heap.size, 1, none⟩ = some (.int .i64 a.trm) := p0.ext 1
    have ka2 : ∀ zw : Ext wc, zw.wd.cell? ⟨w.heap.size, 2, none⟩ = some (.int .i64 a.knd) := p0.ext 2
    have kb0 : ∀ zw : Ext wc, zw.wd.cell? ⟨w.heap.size + 1, 0, none⟩ = some (.int .i64 b.idx) := p1.ext 0
    have kb1 : ∀ zw : Ext wc, zw.wd.cell? ⟨w.heap.size + 1, 1, none⟩ = some (.int .i64 b.trm) := p1.ext 1
    have kb2 : ∀ zw : Ext wc, zw.wd.cell? ⟨w.heap.size + 1, 2, none⟩ = some (.int .i64 b.knd) := p1.ext 2
    have kc0 : ∀ zw : Ext wc, zw.wd.cell? ⟨w.heap.size + 1 + 1, 0, none⟩ = some (.int .i64 c.idx) := p2.ext 0
    have kc1 : ∀ zw : Ext wc, zw.wd.cell? ⟨w.heap.size + 1 + 1, 1, none⟩ = some (.int .i64 c.trm) := p2.ext 1
    have kc2 : ∀ zw : Ext wc, zw.wd.cell? ⟨w.heap.size + 1 + 1, 2, none⟩ = some (.int .i64 c.knd) := p2.ext 2
    have CAA := Lib.hid (show ∀ x5 : Ext wc, Calls Tryd.prog 33 #[.agg #[.int .i64 a.idx, .int .i64 a.trm, .int .i64 a.knd], .agg #[.int .i64 a.idx, .int .i64 a.trm, .int .i64 a.knd]] x5.wd (fun e w' => e = .returned (.bool false) ∧ Below x5.wd.heap.size x5.wd w') from fun x5 => by have h := entOlder a a x5.wd; rw [HAA.out] at h; exact h)
    have CAB := Lib.hid (show ∀ x5 : Ext wc, Calls Tryd.prog 33 #[.agg #[.int .i64 a.idx, .int .i64 a.trm, .int .i64 a.knd], .agg #[.int .i64 b.idx, .int .i64 b.trm, .int .i64 b.knd]] x5.wd (fun e w' => e = .returned (.bool false) ∧ Below x5.wd.heap.size x5.wd w') from fun x5 => by have h := entOlder a b x5.wd; rw [HAB.out] at h; exact h)
    have CBA := Lib.hid (show ∀ x5 : Ext wc, Calls Tryd.prog 33 #[.agg #[.int .i64 b.idx, .int .i64 b.trm, .int .i64 b.knd], .agg #[.int .i64 a.idx, .int .i64 a.trm, .int .i64 a.knd]] x5.wd (fun e w' => e = .returned (.bool false) ∧ Below x5.wd.heap.size x5.wd w') from fun x5 => by have h := entOlder b a x5.wd; rw [HBA.out] at h; exact h)
    have HB3 := Lib.hid P
    have HM3 := Lib.hid (HM.out.later P)
    have HBS3 := Lib.hid (HBS.out.later P)
    clear k0 k1 q0 q1 p0 p1 p2 P
    go_upto_region 6 with fail
    refine wp_region_ext_plain ?_
    repeat (go_big_quiet_step ((rename_i x5; have h5 := x5.low; first
      | (go_at_call 33; first | (with_reducible exact ext_of x5 (CAA.out x5)) | (with_reducible exact ext_of x5 (CAB.out x5)) | (with_reducible exact ext_of x5 (CBA.out x5))))))
    refine wpQuiet_nil ?_
    intro _ hw'
    obtain ⟨x5, hw''⟩ := hw'
    subst hw''
    have HB5 := Lib.hid (below_call HB3.out x5.low)
    have HM5 := Lib.hid (HM3.out.later x5.low)
    have HBS5 := Lib.hid (HBS3.out.later x5.low)
    clear ka0 ka1 ka2 kb0 kb1 kb2 kc0 kc1 kc2
    by_cases hr : memRight ms = true
    · have HR := Lib.hid hr
      clear hr
      by_cases hk : memOk bs = true
      · have HK := Lib.hid hk
        clear hk
        go_wp2_with fail
        refine (entBytes ms _ _ HM5.out).mono ?_
        rintro e w2 ⟨v2, rfl, ho2, hb2⟩
        rw [HR.out] at ho2 ⊢
        simp only [if_true, Bool.false_eq_true, if_false] at ho2 ⊢
        have HM6 := Lib.hid (HM5.out.later hb2)
        have HBS6 := Lib.hid (HBS5.out.later hb2)
        have HB6 := Lib.hid (below_call HB5.out hb2)
        clear hb2
        obtain ⟨ho2, hv2⟩ := ho2
        have H2 := Lib.hid (ho2.sl u8Row_length)
        clear ho2 hv2
        go_wp2_with fail
        refine (entMembers ms (byte_of HR.out) _ _ H2.out).mono ?_
        rintro e w3 ⟨v3, rfl, ho3, hb3⟩
        rw [memOk_of HR.out] at ho3 ⊢
        simp only [if_true] at ho3 ⊢
        have H3 := Lib.hid (ho3.sl i64Row_length)
        have HM6 := Lib.hid (HM6.out.later hb3)
        have HBS6 := Lib.hid (HBS6.out.later hb3)
        have HB6 := Lib.hid (below_call HB6.out hb3)
        clear ho3 hb3
        go_wp2_with fail
        refine (sameIntsB ms _ _ _ H3.out HM6.out).mono ?_
        rintro e w4 ⟨rfl, hb4⟩
        have HM6 := Lib.hid (HM6.out.later hb4)
        have HBS6 := Lib.hid (HBS6.out.later hb4)
        have HB6 := Lib.hid (below_call HB6.out hb4)
        clear hb4
        go_wp2_with fail
        refine (entMembers bs HBB.out _ _ HBS6.out).mono ?_
        rintro e w5 ⟨v5, rfl, ho5, hb5⟩
        rw [HK.out] at ho5 ⊢
        simp only [if_true, Bool.false_eq_true, if_false] at ho5 ⊢
        have HM6 := Lib.hid (HM6.out.later hb5)
        have HBS6 := Lib.hid (HBS6.out.later hb5)
        have HB6 := Lib.hid (below_call HB6.out hb5)
        clear hb5
        have H5 := Lib.hid (ho5.sl i64Row_length)
        clear ho5
        go_wp2_with fail
        refine (entBytes bs _ _ H5.out).mono ?_
        rintro e w6 ⟨v6, rfl, ho6, hb6⟩
        rw [memRight_of HK.out] at ho6 ⊢
        simp only [if_true] at ho6 ⊢
        obtain ⟨ho6, hv6⟩ := ho6
        have H6 := Lib.hid (ho6.sl u8Row_length)
        clear ho6 hv6
        have HM6 := Lib.hid (HM6.out.later hb6)
        have HBS6 := Lib.hid (HBS6.out.later hb6)
        have HB6 := Lib.hid (below_call HB6.out hb6)
        clear hb6
        go_wp2_with fail
        refine (entryRight ms _ _ HM6.out).mono ?_
        rintro e w7 ⟨rfl, rfl⟩
        rw [HR.out]
        go_wp2_with fail
        refine (sameBytesB bs _ _ _ H6.out HBS6.out).mono ?_
        rintro e w8 ⟨rfl, hb8⟩
        go_wp2_with fail
        go_ret
        exact ⟨rfl, below_call HB6.out hb8⟩
      · have HK := Lib.hid (show memOk bs = false by simpa using hk)
        clear hk
        go_wp2_with fail
        refine (entBytes ms _ _ HM5.out).mono ?_
        rintro e w2 ⟨v2, rfl, ho2, hb2⟩
        rw [HR.out] at ho2 ⊢
        simp only [if_true, Bool.false_eq_true, if_false] at ho2 ⊢
        have HM6 := Lib.hid (HM5.out.later hb2)
        have HBS6 := Lib.hid (HBS5.out.later hb2)
        have HB6 := Lib.hid (below_call HB5.out hb2)
        clear hb2
        obtain ⟨ho2, hv2⟩ := ho2
        have H2 := Lib.hid (ho2.sl u8Row_length)
        clear ho2 hv2
        go_wp2_with fail
        refine (entMembers ms (byte_of HR.out) _ _ H2.out).mono ?_
        rintro e w3 ⟨v3, rfl, ho3, hb3⟩
        rw [memOk_of HR.out] at ho3 ⊢
        simp only [if_true] at ho3 ⊢
        have H3 := Lib.hid (ho3.sl i64Row_length)
        have HM6 := Lib.hid (HM6.out.later hb3)
        have HBS6 := Lib.hid (HBS6.out.later hb3)
        have HB6 := Lib.hid (below_call HB6.out hb3)
        clear ho3 hb3
        go_wp2_with fail
        refine (sameIntsB ms _ _ _ H3.out HM6.out).mono ?_
        rintro e w4 ⟨rfl, hb4⟩
        have HM6 := Lib.hid (HM6.out.later hb4)
        have HBS6 := Lib.hid (HBS6.out.later hb4)
        have HB6 := Lib.hid (below_call HB6.out hb4)
        clear hb4
        go_wp2_with fail
        refine (entMembers bs HBB.out _ _ HBS6.out).mono ?_
        rintro e w5 ⟨v5, rfl, ho5, hb5⟩
        rw [HK.out] at ho5 ⊢
        simp only [if_true, Bool.false_eq_true, if_false] at ho5 ⊢
        have HM6 := Lib.hid (HM6.out.later hb5)
        have HBS6 := Lib.hid (HBS6.out.later hb5)
        have HB6 := Lib.hid (below_call HB6.out hb5)
        clear hb5
        subst ho5
        go_wp2_with fail
        refine (entBytes [] _ _ (Sl.nil_ _ _ _ _)).mono ?_
        rintro e w6 ⟨v6, rfl, ho6, hb6⟩
        rw [show memRight [] = false from rfl] at ho6 ⊢
        simp only [Bool.false_eq_true, if_false] at ho6 ⊢
        subst ho6
        have HM6 := Lib.hid (HM6.out.later hb6)
        have HBS6 := Lib.hid (HBS6.out.later hb6)
        have HB6 := Lib.hid (below_call HB6.out hb6)
        clear hb6
        go_wp2_with fail
        refine (entryRight ms _ _ HM6.out).mono ?_
        rintro e w7 ⟨rfl, rfl⟩
        rw [HR.out]
        go_wp2_with fail
        go_ret
        exact ⟨rfl, HB6.out⟩
    · have HR := Lib.hid (show memRight ms = false by simpa using hr)
      clear hr
      by_cases hk : memOk bs = true
      · have HK := Lib.hid hk
        clear hk
        go_wp2_with fail
        refine (entBytes ms _ _ HM5.out).mono ?_
        rintro e w2 ⟨v2, rfl, ho2, hb2⟩
        rw [HR.out] at ho2 ⊢
        simp only [if_true, Bool.false_eq_true, if_false] at ho2 ⊢
        have HM6 := Lib.hid (HM5.out.later hb2)
        have HBS6 := Lib.hid (HBS5.out.later hb2)
        have HB6 := Lib.hid (below_call HB5.out hb2)
        clear hb2
        subst ho2
        go_wp2_with fail
        refine (entMembers bs HBB.out _ _ HBS6.out).mono ?_
        rintro e w5 ⟨v5, rfl, ho5, hb5⟩
        rw [HK.out] at ho5 ⊢
        simp only [if_true, Bool.false_eq_true, if_false] at ho5 ⊢
        have HM6 := Lib.hid (HM6.out.later hb5)
        have HBS6 := Lib.hid (HBS6.out.later hb5)
        have HB6 := Lib.hid (below_call HB6.out hb5)
        clear hb5
        have H5 := Lib.hid (ho5.sl i64Row_length)
        clear ho5
        go_wp2_with fail
        refine (entBytes bs _ _ H5.out).mono ?_
        rintro e w6 ⟨v6, rfl, ho6, hb6⟩
        rw [memRight_of HK.out] at ho6 ⊢
        simp only [if_true] at ho6 ⊢
        obtain ⟨ho6, hv6⟩ := ho6
        have H6 := Lib.hid (ho6.sl u8Row_length)
        clear ho6 hv6
        have HM6 := Lib.hid (HM6.out.later hb6)
        have HBS6 := Lib.hid (HBS6.out.later hb6)
        have HB6 := Lib.hid (below_call HB6.out hb6)
        clear hb6
        go_wp2_with fail
        refine (entryRight ms _ _ HM6.out).mono ?_
        rintro e w7 ⟨rfl, rfl⟩
        rw [HR.out]
        go_wp2_with fail
        refine (sameBytesB bs _ _ _ H6.out HBS6.out).mono ?_
        rintro e w8 ⟨rfl, hb8⟩
        go_wp2_with fail
        go_ret
        exact ⟨rfl, below_call HB6.out hb8⟩
      · have HK := Lib.hid (show memOk bs = false by simpa using hk)
        clear hk
        go_wp2_with fail
        refine (entBytes ms _ _ HM5.out).mono ?_
        rintro e w2 ⟨v2, rfl, ho2, hb2⟩
        rw [HR.out] at ho2 ⊢
        simp only [if_true, Bool.false_eq_true, if_false] at ho2 ⊢
        have HM6 := Lib.hid (HM5.out.later hb2)
        have HBS6 := Lib.hid (HBS5.out.later hb2)
        have HB6 := Lib.hid (below_call HB5.out hb2)
        clear hb2
        subst ho2
        go_wp2_with fail
        refine (entMembers bs HBB.out _ _ HBS6.out).mono ?_
        rintro e w5 ⟨v5, rfl, ho5, hb5⟩
        rw [HK.out] at ho5 ⊢
        simp only [if_true, Bool.false_eq_true, if_false] at ho5 ⊢
        have HM6 := Lib.hid (HM6.out.later hb5)
        have HBS6 := Lib.hid (HBS6.out.later hb5)
        have HB6 := Lib.hid (below_call HB6.out hb5)
        clear hb5
        subst ho5
        go_wp2_with fail
        refine (entBytes [] _ _ (Sl.nil_ _ _ _ _)).mono ?_
        rintro e w6 ⟨v6, rfl, ho6, hb6⟩
        rw [show memRight [] = false from rfl] at ho6 ⊢
        simp only [Bool.false_eq_true, if_false] at ho6 ⊢
        subst ho6
        have HM6 := Lib.hid (HM6.out.later hb6)
        have HBS6 := Lib.hid (HBS6.out.later hb6)
        have HB6 := Lib.hid (below_call HB6.out hb6)
        clear hb6
        go_wp2_with fail
        refine (entryRight ms _ _ HM6.out).mono ?_
        rintro e w7 ⟨rfl, rfl⟩
        rw [HR.out]
        go_wp2_with fail
        go_ret
        exact ⟨rfl, HB6.out⟩

set_option maxRecDepth 100000 in
set_option maxHeartbeats 4000000 in
theorem orders_lt (a b c : Idt) (ms bs : List Int) (vm vb : Value) (w : World) (hm : Sl 1 i64Row w.heap.size w vm ms) (hb : Sl 1 u8Row w.heap.size w vb bs) (hbb : ∀ x ∈ bs, 0 ≤ x ∧ x ≤ 255) (hG : errTypeIs w) (hsm : ms.length + bs.length ≤ 4000) (hs : sameI a b = false) (haa : olderI a a = false) (hab : olderI a b = true) (hba : olderI b a = false) (hbc : olderI b c = true) (hac : olderI a c = true) :
    Calls Tryd.prog 6 #[.agg #[.int .i64 a.idx, .int .i64 a.trm, .int .i64 a.knd], .agg #[.int .i64 b.idx, .int .i64 b.trm, .int .i64 b.knd], .agg #[.int .i64 c.idx, .int .i64 c.trm, .int .i64 c.knd], vm, vb] w fun e w' => e = .returned (.bool true) ∧ Below w.heap.size w w' := by
  have hg : (ms.length : Int) + (bs.length : Int) ≤ 4000 := by omega
  have HS := Lib.hid hs
  have HAA := Lib.hid haa
  have HAB := Lib.hid hab
  have HBA := Lib.hid hba
  have HBC := Lib.hid hbc
  have HAC := Lib.hid hac
  clear hs haa hab hba hbc hac
  have HG := Lib.hid hG
  have HM := Lib.hid hm
  have HBS := Lib.hid hb
  have HBB := Lib.hid hbb
  obtain ⟨Am, cm, rfl, -⟩ := id hm
  obtain ⟨Ab, cb, rfl, -⟩ := id hb
  clear hG hm hb hbb
  go_enter Tryd.func6, Tryd.ntmps6
  go_upto_region 5 with (go_at_call 7; refine (awake _ (errType_later HG.out (below_call (below_call (below_new _ _) (below_new _ _)) (below_new _ _)))).mono ?_; rintro e w1 ⟨rfl, hb1⟩; obtain ⟨p0, p1, p2, P⟩ := boxes3 #[.int .i64 a.idx, .int .i64 a.trm, .int .i64 a.knd] #[.int .i64 b.idx, .int .i64 b.trm, .int .i64 b.knd] #[.int .i64 c.idx, .int .i64 c.trm, .int .i64 c.knd] 42 42 42 hb1; obtain ⟨k0, -, q0⟩ := p0.facts; obtain ⟨k1, -, q1⟩ := p1.facts; clear hb1)
  go_cut [11] (fun v wx => v = .bool false ∧ wx = w1)
  case first =>
    by_cases g : a.trm = b.trm
    · have e1 : (a.trm == b.trm) = true := by simpa using g
      have e2 : (a.idx == b.idx) = false := by have e0 : ((a.trm == b.trm) && (a.idx == b.idx)) = false := HS.out; rw [e1] at e0; simpa using e0
      clear g
      go_wp2_with fail
      go_meet
      exact ⟨rfl, rfl⟩
    · have e1 : (a.trm == b.trm) = false := by simpa using g
      clear g
      go_wp2_with fail
      go_meet
      exact ⟨rfl, rfl⟩
  case rest =>
    obtain ⟨rfl, rfl⟩ := hcut
    have ka0 : ∀ zw : Ext wc, zw.wd.cell? ⟨w.heap.size, 0, none⟩ = some (.int .i64 a.idx) := p0.ext 0
    have ka1 : ∀ zw : Ext wc, zw.wd.cell? ⟨w.heap.size, 1, none⟩ = some (.int .i64 a.trm) := p0.ext 1
    have ka2 : ∀ zw : Ext wc, zw.wd.cell? ⟨w.heap.size, 2, none⟩ = some (.int .i64 a.knd) := p0.ext 2
    have kb0 : ∀ zw : Ext wc, zw.wd.cell? ⟨w.heap.size + 1, 0, none⟩ = some (.int .i64 b.idx) := p1.ext 0
    have kb1 : ∀ zw : Ext wc, zw.wd.cell? ⟨w.heap.size + 1, 1, none⟩ = some (.int .i64 b.trm) := p1.ext 1
    have kb2 : ∀ zw : Ext wc, zw.wd.cell? ⟨w.heap.size + 1, 2, none⟩ = some (.int .i64 b.knd) := p1.ext 2
    have kc0 : ∀ zw : Ext wc, zw.wd.cell? ⟨w.heap.size + 1 + 1, 0, none⟩ = some (.int .i64 c.idx) := p2.ext 0
    have kc1 : ∀ zw : Ext wc, zw.wd.cell? ⟨w.heap.size + 1 + 1, 1, none⟩ = some (.int .i64 c.trm) := p2.ext 1
    have kc2 : ∀ zw : Ext wc, zw.wd.cell? ⟨w.heap.size + 1 + 1, 2, none⟩ = some (.int .i64 c.knd) := p2.ext 2
    have CAA := Lib.hid (show ∀ x5 : Ext wc, Calls Tryd.prog 33 #[.agg #[.int .i64 a.idx, .int .i64 a.trm, .int .i64 a.knd], .agg #[.int .i64 a.idx, .int .i64 a.trm, .int .i64 a.knd]] x5.wd (fun e w' => e = .returned (.bool false) ∧ Below x5.wd.heap.size x5.wd w') from fun x5 => by have h := entOlder a a x5.wd; rw [HAA.out] at h; exact h)
    have CAB := Lib.hid (show ∀ x5 : Ext wc, Calls Tryd.prog 33 #[.agg #[.int .i64 a.idx, .int .i64 a.trm, .int .i64 a.knd], .agg #[.int .i64 b.idx, .int .i64 b.trm, .int .i64 b.knd]] x5.wd (fun e w' => e = .returned (.bool true) ∧ Below x5.wd.heap.size x5.wd w') from fun x5 => by have h := entOlder a b x5.wd; rw [HAB.out] at h; exact h)
    have CBA := Lib.hid (show ∀ x5 : Ext wc, Calls Tryd.prog 33 #[.agg #[.int .i64 b.idx, .int .i64 b.trm, .int .i64 b.knd], .agg #[.int .i64 a.idx, .int .i64 a.trm, .int .i64 a.knd]] x5.wd (fun e w' => e = .returned (.bool false) ∧ Below x5.wd.heap.size x5.wd w') from fun x5 => by have h := entOlder b a x5.wd; rw [HBA.out] at h; exact h)
    have CBC := Lib.hid (show ∀ x5 : Ext wc, Calls Tryd.prog 33 #[.agg #[.int .i64 b.idx, .int .i64 b.trm, .int .i64 b.knd], .agg #[.int .i64 c.idx, .int .i64 c.trm, .int .i64 c.knd]] x5.wd (fun e w' => e = .returned (.bool true) ∧ Below x5.wd.heap.size x5.wd w') from fun x5 => by have h := entOlder b c x5.wd; rw [HBC.out] at h; exact h)
    have CAC := Lib.hid (show ∀ x5 : Ext wc, Calls Tryd.prog 33 #[.agg #[.int .i64 a.idx, .int .i64 a.trm, .int .i64 a.knd], .agg #[.int .i64 c.idx, .int .i64 c.trm, .int .i64 c.knd]] x5.wd (fun e w' => e = .returned (.bool true) ∧ Below x5.wd.heap.size x5.wd w') from fun x5 => by have h := entOlder a c x5.wd; rw [HAC.out] at h; exact h)
    have HB3 := Lib.hid P
    have HM3 := Lib.hid (HM.out.later P)
    have HBS3 := Lib.hid (HBS.out.later P)
    clear k0 k1 q0 q1 p0 p1 p2 P
    go_upto_region 6 with fail
    refine wp_region_ext_plain ?_
    repeat (go_big_quiet_step ((rename_i x5; have h5 := x5.low; first
      | (go_at_call 33; first | (with_reducible exact ext_of x5 (CAA.out x5)) | (with_reducible exact ext_of x5 (CAB.out x5)) | (with_reducible exact ext_of x5 (CBA.out x5)) | (with_reducible exact ext_of x5 (CBC.out x5)) | (with_reducible exact ext_of x5 (CAC.out x5))))))
    refine wpQuiet_nil ?_
    intro _ hw'
    obtain ⟨x5, hw''⟩ := hw'
    subst hw''
    have HB5 := Lib.hid (below_call HB3.out x5.low)
    have HM5 := Lib.hid (HM3.out.later x5.low)
    have HBS5 := Lib.hid (HBS3.out.later x5.low)
    clear ka0 ka1 ka2 kb0 kb1 kb2 kc0 kc1 kc2
    by_cases hr : memRight ms = true
    · have HR := Lib.hid hr
      clear hr
      by_cases hk : memOk bs = true
      · have HK := Lib.hid hk
        clear hk
        go_wp2_with fail
        refine (entBytes ms _ _ HM5.out).mono ?_
        rintro e w2 ⟨v2, rfl, ho2, hb2⟩
        rw [HR.out] at ho2 ⊢
        simp only [if_true, Bool.false_eq_true, if_false] at ho2 ⊢
        have HM6 := Lib.hid (HM5.out.later hb2)
        have HBS6 := Lib.hid (HBS5.out.later hb2)
        have HB6 := Lib.hid (below_call HB5.out hb2)
        clear hb2
        obtain ⟨ho2, hv2⟩ := ho2
        have H2 := Lib.hid (ho2.sl u8Row_length)
        clear ho2 hv2
        go_wp2_with fail
        refine (entMembers ms (byte_of HR.out) _ _ H2.out).mono ?_
        rintro e w3 ⟨v3, rfl, ho3, hb3⟩
        rw [memOk_of HR.out] at ho3 ⊢
        simp only [if_true] at ho3 ⊢
        have H3 := Lib.hid (ho3.sl i64Row_length)
        have HM6 := Lib.hid (HM6.out.later hb3)
        have HBS6 := Lib.hid (HBS6.out.later hb3)
        have HB6 := Lib.hid (below_call HB6.out hb3)
        clear ho3 hb3
        go_wp2_with fail
        refine (sameIntsB ms _ _ _ H3.out HM6.out).mono ?_
        rintro e w4 ⟨rfl, hb4⟩
        have HM6 := Lib.hid (HM6.out.later hb4)
        have HBS6 := Lib.hid (HBS6.out.later hb4)
        have HB6 := Lib.hid (below_call HB6.out hb4)
        clear hb4
        go_wp2_with fail
        refine (entMembers bs HBB.out _ _ HBS6.out).mono ?_
        rintro e w5 ⟨v5, rfl, ho5, hb5⟩
        rw [HK.out] at ho5 ⊢
        simp only [if_true, Bool.false_eq_true, if_false] at ho5 ⊢
        have HM6 := Lib.hid (HM6.out.later hb5)
        have HBS6 := Lib.hid (HBS6.out.later hb5)
        have HB6 := Lib.hid (below_call HB6.out hb5)
        clear hb5
        have H5 := Lib.hid (ho5.sl i64Row_length)
        clear ho5
        go_wp2_with fail
        refine (entBytes bs _ _ H5.out).mono ?_
        rintro e w6 ⟨v6, rfl, ho6, hb6⟩
        rw [memRight_of HK.out] at ho6 ⊢
        simp only [if_true] at ho6 ⊢
        obtain ⟨ho6, hv6⟩ := ho6
        have H6 := Lib.hid (ho6.sl u8Row_length)
        clear ho6 hv6
        have HM6 := Lib.hid (HM6.out.later hb6)
        have HBS6 := Lib.hid (HBS6.out.later hb6)
        have HB6 := Lib.hid (below_call HB6.out hb6)
        clear hb6
        go_wp2_with fail
        refine (entryRight ms _ _ HM6.out).mono ?_
        rintro e w7 ⟨rfl, rfl⟩
        rw [HR.out]
        go_wp2_with fail
        refine (sameBytesB bs _ _ _ H6.out HBS6.out).mono ?_
        rintro e w8 ⟨rfl, hb8⟩
        go_wp2_with fail
        go_ret
        exact ⟨rfl, below_call HB6.out hb8⟩
      · have HK := Lib.hid (show memOk bs = false by simpa using hk)
        clear hk
        go_wp2_with fail
        refine (entBytes ms _ _ HM5.out).mono ?_
        rintro e w2 ⟨v2, rfl, ho2, hb2⟩
        rw [HR.out] at ho2 ⊢
        simp only [if_true, Bool.false_eq_true, if_false] at ho2 ⊢
        have HM6 := Lib.hid (HM5.out.later hb2)
        have HBS6 := Lib.hid (HBS5.out.later hb2)
        have HB6 := Lib.hid (below_call HB5.out hb2)
        clear hb2
        obtain ⟨ho2, hv2⟩ := ho2
        have H2 := Lib.hid (ho2.sl u8Row_length)
        clear ho2 hv2
        go_wp2_with fail
        refine (entMembers ms (byte_of HR.out) _ _ H2.out).mono ?_
        rintro e w3 ⟨v3, rfl, ho3, hb3⟩
        rw [memOk_of HR.out] at ho3 ⊢
        simp only [if_true] at ho3 ⊢
        have H3 := Lib.hid (ho3.sl i64Row_length)
        have HM6 := Lib.hid (HM6.out.later hb3)
        have HBS6 := Lib.hid (HBS6.out.later hb3)
        have HB6 := Lib.hid (below_call HB6.out hb3)
        clear ho3 hb3
        go_wp2_with fail
        refine (sameIntsB ms _ _ _ H3.out HM6.out).mono ?_
        rintro e w4 ⟨rfl, hb4⟩
        have HM6 := Lib.hid (HM6.out.later hb4)
        have HBS6 := Lib.hid (HBS6.out.later hb4)
        have HB6 := Lib.hid (below_call HB6.out hb4)
        clear hb4
        go_wp2_with fail
        refine (entMembers bs HBB.out _ _ HBS6.out).mono ?_
        rintro e w5 ⟨v5, rfl, ho5, hb5⟩
        rw [HK.out] at ho5 ⊢
        simp only [if_true, Bool.false_eq_true, if_false] at ho5 ⊢
        have HM6 := Lib.hid (HM6.out.later hb5)
        have HBS6 := Lib.hid (HBS6.out.later hb5)
        have HB6 := Lib.hid (below_call HB6.out hb5)
        clear hb5
        subst ho5
        go_wp2_with fail
        refine (entBytes [] _ _ (Sl.nil_ _ _ _ _)).mono ?_
        rintro e w6 ⟨v6, rfl, ho6, hb6⟩
        rw [show memRight [] = false from rfl] at ho6 ⊢
        simp only [Bool.false_eq_true, if_false] at ho6 ⊢
        subst ho6
        have HM6 := Lib.hid (HM6.out.later hb6)
        have HBS6 := Lib.hid (HBS6.out.later hb6)
        have HB6 := Lib.hid (below_call HB6.out hb6)
        clear hb6
        go_wp2_with fail
        refine (entryRight ms _ _ HM6.out).mono ?_
        rintro e w7 ⟨rfl, rfl⟩
        rw [HR.out]
        go_wp2_with fail
        go_ret
        exact ⟨rfl, HB6.out⟩
    · have HR := Lib.hid (show memRight ms = false by simpa using hr)
      clear hr
      by_cases hk : memOk bs = true
      · have HK := Lib.hid hk
        clear hk
        go_wp2_with fail
        refine (entBytes ms _ _ HM5.out).mono ?_
        rintro e w2 ⟨v2, rfl, ho2, hb2⟩
        rw [HR.out] at ho2 ⊢
        simp only [if_true, Bool.false_eq_true, if_false] at ho2 ⊢
        have HM6 := Lib.hid (HM5.out.later hb2)
        have HBS6 := Lib.hid (HBS5.out.later hb2)
        have HB6 := Lib.hid (below_call HB5.out hb2)
        clear hb2
        subst ho2
        go_wp2_with fail
        refine (entMembers bs HBB.out _ _ HBS6.out).mono ?_
        rintro e w5 ⟨v5, rfl, ho5, hb5⟩
        rw [HK.out] at ho5 ⊢
        simp only [if_true, Bool.false_eq_true, if_false] at ho5 ⊢
        have HM6 := Lib.hid (HM6.out.later hb5)
        have HBS6 := Lib.hid (HBS6.out.later hb5)
        have HB6 := Lib.hid (below_call HB6.out hb5)
        clear hb5
        have H5 := Lib.hid (ho5.sl i64Row_length)
        clear ho5
        go_wp2_with fail
        refine (entBytes bs _ _ H5.out).mono ?_
        rintro e w6 ⟨v6, rfl, ho6, hb6⟩
        rw [memRight_of HK.out] at ho6 ⊢
        simp only [if_true] at ho6 ⊢
        obtain ⟨ho6, hv6⟩ := ho6
        have H6 := Lib.hid (ho6.sl u8Row_length)
        clear ho6 hv6
        have HM6 := Lib.hid (HM6.out.later hb6)
        have HBS6 := Lib.hid (HBS6.out.later hb6)
        have HB6 := Lib.hid (below_call HB6.out hb6)
        clear hb6
        go_wp2_with fail
        refine (entryRight ms _ _ HM6.out).mono ?_
        rintro e w7 ⟨rfl, rfl⟩
        rw [HR.out]
        go_wp2_with fail
        refine (sameBytesB bs _ _ _ H6.out HBS6.out).mono ?_
        rintro e w8 ⟨rfl, hb8⟩
        go_wp2_with fail
        go_ret
        exact ⟨rfl, below_call HB6.out hb8⟩
      · have HK := Lib.hid (show memOk bs = false by simpa using hk)
        clear hk
        go_wp2_with fail
        refine (entBytes ms _ _ HM5.out).mono ?_
        rintro e w2 ⟨v2, rfl, ho2, hb2⟩
        rw [HR.out] at ho2 ⊢
        simp only [if_true, Bool.false_eq_true, if_false] at ho2 ⊢
        have HM6 := Lib.hid (HM5.out.later hb2)
        have HBS6 := Lib.hid (HBS5.out.later hb2)
        have HB6 := Lib.hid (below_call HB5.out hb2)
        clear hb2
        subst ho2
        go_wp2_with fail
        refine (entMembers bs HBB.out _ _ HBS6.out).mono ?_
        rintro e w5 ⟨v5, rfl, ho5, hb5⟩
        rw [HK.out] at ho5 ⊢
        simp only [if_true, Bool.false_eq_true, if_false] at ho5 ⊢
        have HM6 := Lib.hid (HM6.out.later hb5)
        have HBS6 := Lib.hid (HBS6.out.later hb5)
        have HB6 := Lib.hid (below_call HB6.out hb5)
        clear hb5
        subst ho5
        go_wp2_with fail
        refine (entBytes [] _ _ (Sl.nil_ _ _ _ _)).mono ?_
        rintro e w6 ⟨v6, rfl, ho6, hb6⟩
        rw [show memRight [] = false from rfl] at ho6 ⊢
        simp only [Bool.false_eq_true, if_false] at ho6 ⊢
        subst ho6
        have HM6 := Lib.hid (HM6.out.later hb6)
        have HBS6 := Lib.hid (HBS6.out.later hb6)
        have HB6 := Lib.hid (below_call HB6.out hb6)
        clear hb6
        go_wp2_with fail
        refine (entryRight ms _ _ HM6.out).mono ?_
        rintro e w7 ⟨rfl, rfl⟩
        rw [HR.out]
        go_wp2_with fail
        go_ret
        exact ⟨rfl, HB6.out⟩

set_option maxRecDepth 100000 in
set_option maxHeartbeats 4000000 in
theorem orders_lt2 (a b c : Idt) (ms bs : List Int) (vm vb : Value) (w : World) (hm : Sl 1 i64Row w.heap.size w vm ms) (hb : Sl 1 u8Row w.heap.size w vb bs) (hbb : ∀ x ∈ bs, 0 ≤ x ∧ x ≤ 255) (hG : errTypeIs w) (hsm : ms.length + bs.length ≤ 4000) (hs : sameI a b = false) (haa : olderI a a = false) (hab : olderI a b = true) (hba : olderI b a = false) (hbc : olderI b c = false) :
    Calls Tryd.prog 6 #[.agg #[.int .i64 a.idx, .int .i64 a.trm, .int .i64 a.knd], .agg #[.int .i64 b.idx, .int .i64 b.trm, .int .i64 b.knd], .agg #[.int .i64 c.idx, .int .i64 c.trm, .int .i64 c.knd], vm, vb] w fun e w' => e = .returned (.bool true) ∧ Below w.heap.size w w' := by
  have hg : (ms.length : Int) + (bs.length : Int) ≤ 4000 := by omega
  have HS := Lib.hid hs
  have HAA := Lib.hid haa
  have HAB := Lib.hid hab
  have HBA := Lib.hid hba
  have HBC := Lib.hid hbc
  clear hs haa hab hba hbc
  have HG := Lib.hid hG
  have HM := Lib.hid hm
  have HBS := Lib.hid hb
  have HBB := Lib.hid hbb
  obtain ⟨Am, cm, rfl, -⟩ := id hm
  obtain ⟨Ab, cb, rfl, -⟩ := id hb
  clear hG hm hb hbb
  go_enter Tryd.func6, Tryd.ntmps6
  go_upto_region 5 with (go_at_call 7; refine (awake _ (errType_later HG.out (below_call (below_call (below_new _ _) (below_new _ _)) (below_new _ _)))).mono ?_; rintro e w1 ⟨rfl, hb1⟩; obtain ⟨p0, p1, p2, P⟩ := boxes3 #[.int .i64 a.idx, .int .i64 a.trm, .int .i64 a.knd] #[.int .i64 b.idx, .int .i64 b.trm, .int .i64 b.knd] #[.int .i64 c.idx, .int .i64 c.trm, .int .i64 c.knd] 42 42 42 hb1; obtain ⟨k0, -, q0⟩ := p0.facts; obtain ⟨k1, -, q1⟩ := p1.facts; clear hb1)
  go_cut [11] (fun v wx => v = .bool false ∧ wx = w1)
  case first =>
    by_cases g : a.trm = b.trm
    · have e1 : (a.trm == b.trm) = true := by simpa using g
      have e2 : (a.idx == b.idx) = false := by have e0 : ((a.trm == b.trm) && (a.idx == b.idx)) = false := HS.out; rw [e1] at e0; simpa using e0
      clear g
      go_wp2_with fail
      go_meet
      exact ⟨rfl, rfl⟩
    · have e1 : (a.trm == b.trm) = false := by simpa using g
      clear g
      go_wp2_with fail
      go_meet
      exact ⟨rfl, rfl⟩
  case rest =>
    obtain ⟨rfl, rfl⟩ := hcut
    have ka0 : ∀ zw : Ext wc, zw.wd.cell? ⟨w.heap.size, 0, none⟩ = some (.int .i64 a.idx) := p0.ext 0
    have ka1 : ∀ zw : Ext wc, zw.wd.cell? ⟨w.heap.size, 1, none⟩ = some (.int .i64 a.trm) := p0.ext 1
    have ka2 : ∀ zw : Ext wc, zw.wd.cell? ⟨w.heap.size, 2, none⟩ = some (.int .i64 a.knd) := p0.ext 2
    have kb0 : ∀ zw : Ext wc, zw.wd.cell? ⟨w.heap.size + 1, 0, none⟩ = some (.int .i64 b.idx) := p1.ext 0
    have kb1 : ∀ zw : Ext wc, zw.wd.cell? ⟨w.heap.size + 1, 1, none⟩ = some (.int .i64 b.trm) := p1.ext 1
    have kb2 : ∀ zw : Ext wc, zw.wd.cell? ⟨w.heap.size + 1, 2, none⟩ = some (.int .i64 b.knd) := p1.ext 2
    have kc0 : ∀ zw : Ext wc, zw.wd.cell? ⟨w.heap.size + 1 + 1, 0, none⟩ = some (.int .i64 c.idx) := p2.ext 0
    have kc1 : ∀ zw : Ext wc, zw.wd.cell? ⟨w.heap.size + 1 + 1, 1, none⟩ = some (.int .i64 c.trm) := p2.ext 1
    have kc2 : ∀ zw : Ext wc, zw.wd.cell? ⟨w.heap.size + 1 + 1, 2, none⟩ = some (.int .i64 c.knd) := p2.ext 2
    have CAA := Lib.hid (show ∀ x5 : Ext wc, Calls Tryd.prog 33 #[.agg #[.int .i64 a.idx, .int .i64 a.trm, .int .i64 a.knd], .agg #[.int .i64 a.idx, .int .i64 a.trm, .int .i64 a.knd]] x5.wd (fun e w' => e = .returned (.bool false) ∧ Below x5.wd.heap.size x5.wd w') from fun x5 => by have h := entOlder a a x5.wd; rw [HAA.out] at h; exact h)
    have CAB := Lib.hid (show ∀ x5 : Ext wc, Calls Tryd.prog 33 #[.agg #[.int .i64 a.idx, .int .i64 a.trm, .int .i64 a.knd], .agg #[.int .i64 b.idx, .int .i64 b.trm, .int .i64 b.knd]] x5.wd (fun e w' => e = .returned (.bool true) ∧ Below x5.wd.heap.size x5.wd w') from fun x5 => by have h := entOlder a b x5.wd; rw [HAB.out] at h; exact h)
    have CBA := Lib.hid (show ∀ x5 : Ext wc, Calls Tryd.prog 33 #[.agg #[.int .i64 b.idx, .int .i64 b.trm, .int .i64 b.knd], .agg #[.int .i64 a.idx, .int .i64 a.trm, .int .i64 a.knd]] x5.wd (fun e w' => e = .returned (.bool false) ∧ Below x5.wd.heap.size x5.wd w') from fun x5 => by have h := entOlder b a x5.wd; rw [HBA.out] at h; exact h)
    have CBC := Lib.hid (show ∀ x5 : Ext wc, Calls Tryd.prog 33 #[.agg #[.int .i64 b.idx, .int .i64 b.trm, .int .i64 b.knd], .agg #[.int .i64 c.idx, .int .i64 c.trm, .int .i64 c.knd]] x5.wd (fun e w' => e = .returned (.bool false) ∧ Below x5.wd.heap.size x5.wd w') from fun x5 => by have h := entOlder b c x5.wd; rw [HBC.out] at h; exact h)
    have HB3 := Lib.hid P
    have HM3 := Lib.hid (HM.out.later P)
    have HBS3 := Lib.hid (HBS.out.later P)
    clear k0 k1 q0 q1 p0 p1 p2 P
    go_upto_region 6 with fail
    refine wp_region_ext_plain ?_
    repeat (go_big_quiet_step ((rename_i x5; have h5 := x5.low; first
      | (go_at_call 33; first | (with_reducible exact ext_of x5 (CAA.out x5)) | (with_reducible exact ext_of x5 (CAB.out x5)) | (with_reducible exact ext_of x5 (CBA.out x5)) | (with_reducible exact ext_of x5 (CBC.out x5))))))
    refine wpQuiet_nil ?_
    intro _ hw'
    obtain ⟨x5, hw''⟩ := hw'
    subst hw''
    have HB5 := Lib.hid (below_call HB3.out x5.low)
    have HM5 := Lib.hid (HM3.out.later x5.low)
    have HBS5 := Lib.hid (HBS3.out.later x5.low)
    clear ka0 ka1 ka2 kb0 kb1 kb2 kc0 kc1 kc2
    by_cases hr : memRight ms = true
    · have HR := Lib.hid hr
      clear hr
      by_cases hk : memOk bs = true
      · have HK := Lib.hid hk
        clear hk
        go_wp2_with fail
        refine (entBytes ms _ _ HM5.out).mono ?_
        rintro e w2 ⟨v2, rfl, ho2, hb2⟩
        rw [HR.out] at ho2 ⊢
        simp only [if_true, Bool.false_eq_true, if_false] at ho2 ⊢
        have HM6 := Lib.hid (HM5.out.later hb2)
        have HBS6 := Lib.hid (HBS5.out.later hb2)
        have HB6 := Lib.hid (below_call HB5.out hb2)
        clear hb2
        obtain ⟨ho2, hv2⟩ := ho2
        have H2 := Lib.hid (ho2.sl u8Row_length)
        clear ho2 hv2
        go_wp2_with fail
        refine (entMembers ms (byte_of HR.out) _ _ H2.out).mono ?_
        rintro e w3 ⟨v3, rfl, ho3, hb3⟩
        rw [memOk_of HR.out] at ho3 ⊢
        simp only [if_true] at ho3 ⊢
        have H3 := Lib.hid (ho3.sl i64Row_length)
        have HM6 := Lib.hid (HM6.out.later hb3)
        have HBS6 := Lib.hid (HBS6.out.later hb3)
        have HB6 := Lib.hid (below_call HB6.out hb3)
        clear ho3 hb3
        go_wp2_with fail
        refine (sameIntsB ms _ _ _ H3.out HM6.out).mono ?_
        rintro e w4 ⟨rfl, hb4⟩
        have HM6 := Lib.hid (HM6.out.later hb4)
        have HBS6 := Lib.hid (HBS6.out.later hb4)
        have HB6 := Lib.hid (below_call HB6.out hb4)
        clear hb4
        go_wp2_with fail
        refine (entMembers bs HBB.out _ _ HBS6.out).mono ?_
        rintro e w5 ⟨v5, rfl, ho5, hb5⟩
        rw [HK.out] at ho5 ⊢
        simp only [if_true, Bool.false_eq_true, if_false] at ho5 ⊢
        have HM6 := Lib.hid (HM6.out.later hb5)
        have HBS6 := Lib.hid (HBS6.out.later hb5)
        have HB6 := Lib.hid (below_call HB6.out hb5)
        clear hb5
        have H5 := Lib.hid (ho5.sl i64Row_length)
        clear ho5
        go_wp2_with fail
        refine (entBytes bs _ _ H5.out).mono ?_
        rintro e w6 ⟨v6, rfl, ho6, hb6⟩
        rw [memRight_of HK.out] at ho6 ⊢
        simp only [if_true] at ho6 ⊢
        obtain ⟨ho6, hv6⟩ := ho6
        have H6 := Lib.hid (ho6.sl u8Row_length)
        clear ho6 hv6
        have HM6 := Lib.hid (HM6.out.later hb6)
        have HBS6 := Lib.hid (HBS6.out.later hb6)
        have HB6 := Lib.hid (below_call HB6.out hb6)
        clear hb6
        go_wp2_with fail
        refine (entryRight ms _ _ HM6.out).mono ?_
        rintro e w7 ⟨rfl, rfl⟩
        rw [HR.out]
        go_wp2_with fail
        refine (sameBytesB bs _ _ _ H6.out HBS6.out).mono ?_
        rintro e w8 ⟨rfl, hb8⟩
        go_wp2_with fail
        go_ret
        exact ⟨rfl, below_call HB6.out hb8⟩
      · have HK := Lib.hid (show memOk bs = false by simpa using hk)
        clear hk
        go_wp2_with fail
        refine (entBytes ms _ _ HM5.out).mono ?_
        rintro e w2 ⟨v2, rfl, ho2, hb2⟩
        rw [HR.out] at ho2 ⊢
        simp only [if_true, Bool.false_eq_true, if_false] at ho2 ⊢
        have HM6 := Lib.hid (HM5.out.later hb2)
        have HBS6 := Lib.hid (HBS5.out.later hb2)
        have HB6 := Lib.hid (below_call HB5.out hb2)
        clear hb2
        obtain ⟨ho2, hv2⟩ := ho2
        have H2 := Lib.hid (ho2.sl u8Row_length)
        clear ho2 hv2
        go_wp2_with fail
        refine (entMembers ms (byte_of HR.out) _ _ H2.out).mono ?_
        rintro e w3 ⟨v3, rfl, ho3, hb3⟩
        rw [memOk_of HR.out] at ho3 ⊢
        simp only [if_true] at ho3 ⊢
        have H3 := Lib.hid (ho3.sl i64Row_length)
        have HM6 := Lib.hid (HM6.out.later hb3)
        have HBS6 := Lib.hid (HBS6.out.later hb3)
        have HB6 := Lib.hid (below_call HB6.out hb3)
        clear ho3 hb3
        go_wp2_with fail
        refine (sameIntsB ms _ _ _ H3.out HM6.out).mono ?_
        rintro e w4 ⟨rfl, hb4⟩
        have HM6 := Lib.hid (HM6.out.later hb4)
        have HBS6 := Lib.hid (HBS6.out.later hb4)
        have HB6 := Lib.hid (below_call HB6.out hb4)
        clear hb4
        go_wp2_with fail
        refine (entMembers bs HBB.out _ _ HBS6.out).mono ?_
        rintro e w5 ⟨v5, rfl, ho5, hb5⟩
        rw [HK.out] at ho5 ⊢
        simp only [if_true, Bool.false_eq_true, if_false] at ho5 ⊢
        have HM6 := Lib.hid (HM6.out.later hb5)
        have HBS6 := Lib.hid (HBS6.out.later hb5)
        have HB6 := Lib.hid (below_call HB6.out hb5)
        clear hb5
        subst ho5
        go_wp2_with fail
        refine (entBytes [] _ _ (Sl.nil_ _ _ _ _)).mono ?_
        rintro e w6 ⟨v6, rfl, ho6, hb6⟩
        rw [show memRight [] = false from rfl] at ho6 ⊢
        simp only [Bool.false_eq_true, if_false] at ho6 ⊢
        subst ho6
        have HM6 := Lib.hid (HM6.out.later hb6)
        have HBS6 := Lib.hid (HBS6.out.later hb6)
        have HB6 := Lib.hid (below_call HB6.out hb6)
        clear hb6
        go_wp2_with fail
        refine (entryRight ms _ _ HM6.out).mono ?_
        rintro e w7 ⟨rfl, rfl⟩
        rw [HR.out]
        go_wp2_with fail
        go_ret
        exact ⟨rfl, HB6.out⟩
    · have HR := Lib.hid (show memRight ms = false by simpa using hr)
      clear hr
      by_cases hk : memOk bs = true
      · have HK := Lib.hid hk
        clear hk
        go_wp2_with fail
        refine (entBytes ms _ _ HM5.out).mono ?_
        rintro e w2 ⟨v2, rfl, ho2, hb2⟩
        rw [HR.out] at ho2 ⊢
        simp only [if_true, Bool.false_eq_true, if_false] at ho2 ⊢
        have HM6 := Lib.hid (HM5.out.later hb2)
        have HBS6 := Lib.hid (HBS5.out.later hb2)
        have HB6 := Lib.hid (below_call HB5.out hb2)
        clear hb2
        subst ho2
        go_wp2_with fail
        refine (entMembers bs HBB.out _ _ HBS6.out).mono ?_
        rintro e w5 ⟨v5, rfl, ho5, hb5⟩
        rw [HK.out] at ho5 ⊢
        simp only [if_true, Bool.false_eq_true, if_false] at ho5 ⊢
        have HM6 := Lib.hid (HM6.out.later hb5)
        have HBS6 := Lib.hid (HBS6.out.later hb5)
        have HB6 := Lib.hid (below_call HB6.out hb5)
        clear hb5
        have H5 := Lib.hid (ho5.sl i64Row_length)
        clear ho5
        go_wp2_with fail
        refine (entBytes bs _ _ H5.out).mono ?_
        rintro e w6 ⟨v6, rfl, ho6, hb6⟩
        rw [memRight_of HK.out] at ho6 ⊢
        simp only [if_true] at ho6 ⊢
        obtain ⟨ho6, hv6⟩ := ho6
        have H6 := Lib.hid (ho6.sl u8Row_length)
        clear ho6 hv6
        have HM6 := Lib.hid (HM6.out.later hb6)
        have HBS6 := Lib.hid (HBS6.out.later hb6)
        have HB6 := Lib.hid (below_call HB6.out hb6)
        clear hb6
        go_wp2_with fail
        refine (entryRight ms _ _ HM6.out).mono ?_
        rintro e w7 ⟨rfl, rfl⟩
        rw [HR.out]
        go_wp2_with fail
        refine (sameBytesB bs _ _ _ H6.out HBS6.out).mono ?_
        rintro e w8 ⟨rfl, hb8⟩
        go_wp2_with fail
        go_ret
        exact ⟨rfl, below_call HB6.out hb8⟩
      · have HK := Lib.hid (show memOk bs = false by simpa using hk)
        clear hk
        go_wp2_with fail
        refine (entBytes ms _ _ HM5.out).mono ?_
        rintro e w2 ⟨v2, rfl, ho2, hb2⟩
        rw [HR.out] at ho2 ⊢
        simp only [if_true, Bool.false_eq_true, if_false] at ho2 ⊢
        have HM6 := Lib.hid (HM5.out.later hb2)
        have HBS6 := Lib.hid (HBS5.out.later hb2)
        have HB6 := Lib.hid (below_call HB5.out hb2)
        clear hb2
        subst ho2
        go_wp2_with fail
        refine (entMembers bs HBB.out _ _ HBS6.out).mono ?_
        rintro e w5 ⟨v5, rfl, ho5, hb5⟩
        rw [HK.out] at ho5 ⊢
        simp only [if_true, Bool.false_eq_true, if_false] at ho5 ⊢
        have HM6 := Lib.hid (HM6.out.later hb5)
        have HBS6 := Lib.hid (HBS6.out.later hb5)
        have HB6 := Lib.hid (below_call HB6.out hb5)
        clear hb5
        subst ho5
        go_wp2_with fail
        refine (entBytes [] _ _ (Sl.nil_ _ _ _ _)).mono ?_
        rintro e w6 ⟨v6, rfl, ho6, hb6⟩
        rw [show memRight [] = false from rfl] at ho6 ⊢
        simp only [Bool.false_eq_true, if_false] at ho6 ⊢
        subst ho6
        have HM6 := Lib.hid (HM6.out.later hb6)
        have HBS6 := Lib.hid (HBS6.out.later hb6)
        have HB6 := Lib.hid (below_call HB6.out hb6)
        clear hb6
        go_wp2_with fail
        refine (entryRight ms _ _ HM6.out).mono ?_
        rintro e w7 ⟨rfl, rfl⟩
        rw [HR.out]
        go_wp2_with fail
        go_ret
        exact ⟨rfl, HB6.out⟩

set_option maxRecDepth 100000 in
set_option maxHeartbeats 4000000 in
theorem orders_gt (a b c : Idt) (ms bs : List Int) (vm vb : Value) (w : World) (hm : Sl 1 i64Row w.heap.size w vm ms) (hb : Sl 1 u8Row w.heap.size w vb bs) (hbb : ∀ x ∈ bs, 0 ≤ x ∧ x ≤ 255) (hG : errTypeIs w) (hsm : ms.length + bs.length ≤ 4000) (hs : sameI a b = false) (haa : olderI a a = false) (hab : olderI a b = false) (hba : olderI b a = true) :
    Calls Tryd.prog 6 #[.agg #[.int .i64 a.idx, .int .i64 a.trm, .int .i64 a.knd], .agg #[.int .i64 b.idx, .int .i64 b.trm, .int .i64 b.knd], .agg #[.int .i64 c.idx, .int .i64 c.trm, .int .i64 c.knd], vm, vb] w fun e w' => e = .returned (.bool true) ∧ Below w.heap.size w w' := by
  have hg : (ms.length : Int) + (bs.length : Int) ≤ 4000 := by omega
  have HS := Lib.hid hs
  have HAA := Lib.hid haa
  have HAB := Lib.hid hab
  have HBA := Lib.hid hba
  clear hs haa hab hba
  have HG := Lib.hid hG
  have HM := Lib.hid hm
  have HBS := Lib.hid hb
  have HBB := Lib.hid hbb
  obtain ⟨Am, cm, rfl, -⟩ := id hm
  obtain ⟨Ab, cb, rfl, -⟩ := id hb
  clear hG hm hb hbb
  go_enter Tryd.func6, Tryd.ntmps6
  go_upto_region 5 with (go_at_call 7; refine (awake _ (errType_later HG.out (below_call (below_call (below_new _ _) (below_new _ _)) (below_new _ _)))).mono ?_; rintro e w1 ⟨rfl, hb1⟩; obtain ⟨p0, p1, p2, P⟩ := boxes3 #[.int .i64 a.idx, .int .i64 a.trm, .int .i64 a.knd] #[.int .i64 b.idx, .int .i64 b.trm, .int .i64 b.knd] #[.int .i64 c.idx, .int .i64 c.trm, .int .i64 c.knd] 42 42 42 hb1; obtain ⟨k0, -, q0⟩ := p0.facts; obtain ⟨k1, -, q1⟩ := p1.facts; clear hb1)
  go_cut [11] (fun v wx => v = .bool false ∧ wx = w1)
  case first =>
    by_cases g : a.trm = b.trm
    · have e1 : (a.trm == b.trm) = true := by simpa using g
      have e2 : (a.idx == b.idx) = false := by have e0 : ((a.trm == b.trm) && (a.idx == b.idx)) = false := HS.out; rw [e1] at e0; simpa using e0
      clear g
      go_wp2_with fail
      go_meet
      exact ⟨rfl, rfl⟩
    · have e1 : (a.trm == b.trm) = false := by simpa using g
      clear g
      go_wp2_with fail
      go_meet
      exact ⟨rfl, rfl⟩
  case rest =>
    obtain ⟨rfl, rfl⟩ := hcut
    have ka0 : ∀ zw : Ext wc, zw.wd.cell? ⟨w.heap.size, 0, none⟩ = some (.int .i64 a.idx) := p0.ext 0
    have ka1 : ∀ zw : Ext wc, zw.wd.cell? ⟨w.heap.size, 1, none⟩ = some (.int .i64 a.trm) := p0.ext 1
    have ka2 : ∀ zw : Ext wc, zw.wd.cell? ⟨w.heap.size, 2, none⟩ = some (.int .i64 a.knd) := p0.ext 2
    have kb0 : ∀ zw : Ext wc, zw.wd.cell? ⟨w.heap.size + 1, 0, none⟩ = some (.int .i64 b.idx) := p1.ext 0
    have kb1 : ∀ zw : Ext wc, zw.wd.cell? ⟨w.heap.size + 1, 1, none⟩ = some (.int .i64 b.trm) := p1.ext 1
    have kb2 : ∀ zw : Ext wc, zw.wd.cell? ⟨w.heap.size + 1, 2, none⟩ = some (.int .i64 b.knd) := p1.ext 2
    have kc0 : ∀ zw : Ext wc, zw.wd.cell? ⟨w.heap.size + 1 + 1, 0, none⟩ = some (.int .i64 c.idx) := p2.ext 0
    have kc1 : ∀ zw : Ext wc, zw.wd.cell? ⟨w.heap.size + 1 + 1, 1, none⟩ = some (.int .i64 c.trm) := p2.ext 1
    have kc2 : ∀ zw : Ext wc, zw.wd.cell? ⟨w.heap.size + 1 + 1, 2, none⟩ = some (.int .i64 c.knd) := p2.ext 2
    have CAA := Lib.hid (show ∀ x5 : Ext wc, Calls Tryd.prog 33 #[.agg #[.int .i64 a.idx, .int .i64 a.trm, .int .i64 a.knd], .agg #[.int .i64 a.idx, .int .i64 a.trm, .int .i64 a.knd]] x5.wd (fun e w' => e = .returned (.bool false) ∧ Below x5.wd.heap.size x5.wd w') from fun x5 => by have h := entOlder a a x5.wd; rw [HAA.out] at h; exact h)
    have CAB := Lib.hid (show ∀ x5 : Ext wc, Calls Tryd.prog 33 #[.agg #[.int .i64 a.idx, .int .i64 a.trm, .int .i64 a.knd], .agg #[.int .i64 b.idx, .int .i64 b.trm, .int .i64 b.knd]] x5.wd (fun e w' => e = .returned (.bool false) ∧ Below x5.wd.heap.size x5.wd w') from fun x5 => by have h := entOlder a b x5.wd; rw [HAB.out] at h; exact h)
    have CBA := Lib.hid (show ∀ x5 : Ext wc, Calls Tryd.prog 33 #[.agg #[.int .i64 b.idx, .int .i64 b.trm, .int .i64 b.knd], .agg #[.int .i64 a.idx, .int .i64 a.trm, .int .i64 a.knd]] x5.wd (fun e w' => e = .returned (.bool true) ∧ Below x5.wd.heap.size x5.wd w') from fun x5 => by have h := entOlder b a x5.wd; rw [HBA.out] at h; exact h)
    have HB3 := Lib.hid P
    have HM3 := Lib.hid (HM.out.later P)
    have HBS3 := Lib.hid (HBS.out.later P)
    clear k0 k1 q0 q1 p0 p1 p2 P
    go_upto_region 6 with fail
    refine wp_region_ext_plain ?_
    repeat (go_big_quiet_step ((rename_i x5; have h5 := x5.low; first
      | (go_at_call 33; first | (with_reducible exact ext_of x5 (CAA.out x5)) | (with_reducible exact ext_of x5 (CAB.out x5)) | (with_reducible exact ext_of x5 (CBA.out x5))))))
    refine wpQuiet_nil ?_
    intro _ hw'
    obtain ⟨x5, hw''⟩ := hw'
    subst hw''
    have HB5 := Lib.hid (below_call HB3.out x5.low)
    have HM5 := Lib.hid (HM3.out.later x5.low)
    have HBS5 := Lib.hid (HBS3.out.later x5.low)
    clear ka0 ka1 ka2 kb0 kb1 kb2 kc0 kc1 kc2
    by_cases hr : memRight ms = true
    · have HR := Lib.hid hr
      clear hr
      by_cases hk : memOk bs = true
      · have HK := Lib.hid hk
        clear hk
        go_wp2_with fail
        refine (entBytes ms _ _ HM5.out).mono ?_
        rintro e w2 ⟨v2, rfl, ho2, hb2⟩
        rw [HR.out] at ho2 ⊢
        simp only [if_true, Bool.false_eq_true, if_false] at ho2 ⊢
        have HM6 := Lib.hid (HM5.out.later hb2)
        have HBS6 := Lib.hid (HBS5.out.later hb2)
        have HB6 := Lib.hid (below_call HB5.out hb2)
        clear hb2
        obtain ⟨ho2, hv2⟩ := ho2
        have H2 := Lib.hid (ho2.sl u8Row_length)
        clear ho2 hv2
        go_wp2_with fail
        refine (entMembers ms (byte_of HR.out) _ _ H2.out).mono ?_
        rintro e w3 ⟨v3, rfl, ho3, hb3⟩
        rw [memOk_of HR.out] at ho3 ⊢
        simp only [if_true] at ho3 ⊢
        have H3 := Lib.hid (ho3.sl i64Row_length)
        have HM6 := Lib.hid (HM6.out.later hb3)
        have HBS6 := Lib.hid (HBS6.out.later hb3)
        have HB6 := Lib.hid (below_call HB6.out hb3)
        clear ho3 hb3
        go_wp2_with fail
        refine (sameIntsB ms _ _ _ H3.out HM6.out).mono ?_
        rintro e w4 ⟨rfl, hb4⟩
        have HM6 := Lib.hid (HM6.out.later hb4)
        have HBS6 := Lib.hid (HBS6.out.later hb4)
        have HB6 := Lib.hid (below_call HB6.out hb4)
        clear hb4
        go_wp2_with fail
        refine (entMembers bs HBB.out _ _ HBS6.out).mono ?_
        rintro e w5 ⟨v5, rfl, ho5, hb5⟩
        rw [HK.out] at ho5 ⊢
        simp only [if_true, Bool.false_eq_true, if_false] at ho5 ⊢
        have HM6 := Lib.hid (HM6.out.later hb5)
        have HBS6 := Lib.hid (HBS6.out.later hb5)
        have HB6 := Lib.hid (below_call HB6.out hb5)
        clear hb5
        have H5 := Lib.hid (ho5.sl i64Row_length)
        clear ho5
        go_wp2_with fail
        refine (entBytes bs _ _ H5.out).mono ?_
        rintro e w6 ⟨v6, rfl, ho6, hb6⟩
        rw [memRight_of HK.out] at ho6 ⊢
        simp only [if_true] at ho6 ⊢
        obtain ⟨ho6, hv6⟩ := ho6
        have H6 := Lib.hid (ho6.sl u8Row_length)
        clear ho6 hv6
        have HM6 := Lib.hid (HM6.out.later hb6)
        have HBS6 := Lib.hid (HBS6.out.later hb6)
        have HB6 := Lib.hid (below_call HB6.out hb6)
        clear hb6
        go_wp2_with fail
        refine (entryRight ms _ _ HM6.out).mono ?_
        rintro e w7 ⟨rfl, rfl⟩
        rw [HR.out]
        go_wp2_with fail
        refine (sameBytesB bs _ _ _ H6.out HBS6.out).mono ?_
        rintro e w8 ⟨rfl, hb8⟩
        go_wp2_with fail
        go_ret
        exact ⟨rfl, below_call HB6.out hb8⟩
      · have HK := Lib.hid (show memOk bs = false by simpa using hk)
        clear hk
        go_wp2_with fail
        refine (entBytes ms _ _ HM5.out).mono ?_
        rintro e w2 ⟨v2, rfl, ho2, hb2⟩
        rw [HR.out] at ho2 ⊢
        simp only [if_true, Bool.false_eq_true, if_false] at ho2 ⊢
        have HM6 := Lib.hid (HM5.out.later hb2)
        have HBS6 := Lib.hid (HBS5.out.later hb2)
        have HB6 := Lib.hid (below_call HB5.out hb2)
        clear hb2
        obtain ⟨ho2, hv2⟩ := ho2
        have H2 := Lib.hid (ho2.sl u8Row_length)
        clear ho2 hv2
        go_wp2_with fail
        refine (entMembers ms (byte_of HR.out) _ _ H2.out).mono ?_
        rintro e w3 ⟨v3, rfl, ho3, hb3⟩
        rw [memOk_of HR.out] at ho3 ⊢
        simp only [if_true] at ho3 ⊢
        have H3 := Lib.hid (ho3.sl i64Row_length)
        have HM6 := Lib.hid (HM6.out.later hb3)
        have HBS6 := Lib.hid (HBS6.out.later hb3)
        have HB6 := Lib.hid (below_call HB6.out hb3)
        clear ho3 hb3
        go_wp2_with fail
        refine (sameIntsB ms _ _ _ H3.out HM6.out).mono ?_
        rintro e w4 ⟨rfl, hb4⟩
        have HM6 := Lib.hid (HM6.out.later hb4)
        have HBS6 := Lib.hid (HBS6.out.later hb4)
        have HB6 := Lib.hid (below_call HB6.out hb4)
        clear hb4
        go_wp2_with fail
        refine (entMembers bs HBB.out _ _ HBS6.out).mono ?_
        rintro e w5 ⟨v5, rfl, ho5, hb5⟩
        rw [HK.out] at ho5 ⊢
        simp only [if_true, Bool.false_eq_true, if_false] at ho5 ⊢
        have HM6 := Lib.hid (HM6.out.later hb5)
        have HBS6 := Lib.hid (HBS6.out.later hb5)
        have HB6 := Lib.hid (below_call HB6.out hb5)
        clear hb5
        subst ho5
        go_wp2_with fail
        refine (entBytes [] _ _ (Sl.nil_ _ _ _ _)).mono ?_
        rintro e w6 ⟨v6, rfl, ho6, hb6⟩
        rw [show memRight [] = false from rfl] at ho6 ⊢
        simp only [Bool.false_eq_true, if_false] at ho6 ⊢
        subst ho6
        have HM6 := Lib.hid (HM6.out.later hb6)
        have HBS6 := Lib.hid (HBS6.out.later hb6)
        have HB6 := Lib.hid (below_call HB6.out hb6)
        clear hb6
        go_wp2_with fail
        refine (entryRight ms _ _ HM6.out).mono ?_
        rintro e w7 ⟨rfl, rfl⟩
        rw [HR.out]
        go_wp2_with fail
        go_ret
        exact ⟨rfl, HB6.out⟩
    · have HR := Lib.hid (show memRight ms = false by simpa using hr)
      clear hr
      by_cases hk : memOk bs = true
      · have HK := Lib.hid hk
        clear hk
        go_wp2_with fail
        refine (entBytes ms _ _ HM5.out).mono ?_
        rintro e w2 ⟨v2, rfl, ho2, hb2⟩
        rw [HR.out] at ho2 ⊢
        simp only [if_true, Bool.false_eq_true, if_false] at ho2 ⊢
        have HM6 := Lib.hid (HM5.out.later hb2)
        have HBS6 := Lib.hid (HBS5.out.later hb2)
        have HB6 := Lib.hid (below_call HB5.out hb2)
        clear hb2
        subst ho2
        go_wp2_with fail
        refine (entMembers bs HBB.out _ _ HBS6.out).mono ?_
        rintro e w5 ⟨v5, rfl, ho5, hb5⟩
        rw [HK.out] at ho5 ⊢
        simp only [if_true, Bool.false_eq_true, if_false] at ho5 ⊢
        have HM6 := Lib.hid (HM6.out.later hb5)
        have HBS6 := Lib.hid (HBS6.out.later hb5)
        have HB6 := Lib.hid (below_call HB6.out hb5)
        clear hb5
        have H5 := Lib.hid (ho5.sl i64Row_length)
        clear ho5
        go_wp2_with fail
        refine (entBytes bs _ _ H5.out).mono ?_
        rintro e w6 ⟨v6, rfl, ho6, hb6⟩
        rw [memRight_of HK.out] at ho6 ⊢
        simp only [if_true] at ho6 ⊢
        obtain ⟨ho6, hv6⟩ := ho6
        have H6 := Lib.hid (ho6.sl u8Row_length)
        clear ho6 hv6
        have HM6 := Lib.hid (HM6.out.later hb6)
        have HBS6 := Lib.hid (HBS6.out.later hb6)
        have HB6 := Lib.hid (below_call HB6.out hb6)
        clear hb6
        go_wp2_with fail
        refine (entryRight ms _ _ HM6.out).mono ?_
        rintro e w7 ⟨rfl, rfl⟩
        rw [HR.out]
        go_wp2_with fail
        refine (sameBytesB bs _ _ _ H6.out HBS6.out).mono ?_
        rintro e w8 ⟨rfl, hb8⟩
        go_wp2_with fail
        go_ret
        exact ⟨rfl, below_call HB6.out hb8⟩
      · have HK := Lib.hid (show memOk bs = false by simpa using hk)
        clear hk
        go_wp2_with fail
        refine (entBytes ms _ _ HM5.out).mono ?_
        rintro e w2 ⟨v2, rfl, ho2, hb2⟩
        rw [HR.out] at ho2 ⊢
        simp only [if_true, Bool.false_eq_true, if_false] at ho2 ⊢
        have HM6 := Lib.hid (HM5.out.later hb2)
        have HBS6 := Lib.hid (HBS5.out.later hb2)
        have HB6 := Lib.hid (below_call HB5.out hb2)
        clear hb2
        subst ho2
        go_wp2_with fail
        refine (entMembers bs HBB.out _ _ HBS6.out).mono ?_
        rintro e w5 ⟨v5, rfl, ho5, hb5⟩
        rw [HK.out] at ho5 ⊢
        simp only [if_true, Bool.false_eq_true, if_false] at ho5 ⊢
        have HM6 := Lib.hid (HM6.out.later hb5)
        have HBS6 := Lib.hid (HBS6.out.later hb5)
        have HB6 := Lib.hid (below_call HB6.out hb5)
        clear hb5
        subst ho5
        go_wp2_with fail
        refine (entBytes [] _ _ (Sl.nil_ _ _ _ _)).mono ?_
        rintro e w6 ⟨v6, rfl, ho6, hb6⟩
        rw [show memRight [] = false from rfl] at ho6 ⊢
        simp only [Bool.false_eq_true, if_false] at ho6 ⊢
        subst ho6
        have HM6 := Lib.hid (HM6.out.later hb6)
        have HBS6 := Lib.hid (HBS6.out.later hb6)
        have HB6 := Lib.hid (below_call HB6.out hb6)
        clear hb6
        go_wp2_with fail
        refine (entryRight ms _ _ HM6.out).mono ?_
        rintro e w7 ⟨rfl, rfl⟩
        rw [HR.out]
        go_wp2_with fail
        go_ret
        exact ⟨rfl, HB6.out⟩

end Go.Proofs.YtonidklmnecamaaDoor
