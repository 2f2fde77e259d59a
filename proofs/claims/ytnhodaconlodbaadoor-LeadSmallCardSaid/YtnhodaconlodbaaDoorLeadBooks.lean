/-
  LeadBooks: whatever the books, the members, the numbers: true; the input stays.
-/
import Derived.Test.YtnhodaconlodbaaDoorLeadRef5
import Derived.Test.YtnhodaconlodbaaDoorLeadAwake
import Derived.Test.YtnhodaconlodbaaDoorKitSameInts
set_option linter.unusedVariables false
namespace Go.Proofs.YtnhodaconlodbaaDoor
open Go.RowKit

theorem quiet_below {w w' : World} (h : ∃ n, w' = w.drewN n) : Below w.heap.size w w' := by
  obtain ⟨n, rfl⟩ := h; exact below_drewN (Below.refl _ _) n
theorem sameBks' (l : List Bk) (v v' : Value) (w : World) (h : Sl 4 bkRow w.heap.size w v l) (h' : Sl 4 bkRow w.heap.size w v' l) :
    Calls Tryd.prog 38 #[v, v'] w fun e w' => e = .returned (.bool true) ∧ Below w.heap.size w w' :=
  (sameBks l v v' w h h').mono fun _ _ ⟨he, hw⟩ => ⟨he, quiet_below hw⟩
theorem sameInts' (l : List Int) (v v' : Value) (w : World) (h : Sl 1 i64Row w.heap.size w v l) (h' : Sl 1 i64Row w.heap.size w v' l) :
    Calls Tryd.prog 47 #[v, v'] w fun e w' => e = .returned (.bool true) ∧ Below w.heap.size w w' :=
  (sameInts l v v' w h h').mono fun _ _ ⟨he, hw⟩ => ⟨he, quiet_below hw⟩
theorem keptInts' (l : List Int) (v v' : Value) (w : World) (h : Lnt 1 i64Row marks w.heap.size w v l) (h' : Sl 1 i64Row w.heap.size w v' l) (hn : l.length ≤ 1000000) :
    Calls Tryd.prog 31 #[v, v'] w fun e w' => e = .returned (.bool true) ∧ Below w.heap.size w w' :=
  (keptInts l v v' w h h' hn).mono fun _ _ ⟨he, hw⟩ => ⟨he, quiet_below hw⟩

set_option maxRecDepth 100000 in
set_option maxHeartbeats 1000000 in
theorem books_big (l : List Bk) (ms : List Int) (v vm : Value) (self frm index piece : Int) (yes : Bool) (w : World) (h : Sl 4 bkRow w.heap.size w v l) (hm : Sl 1 i64Row w.heap.size w vm ms) (hbig : 300 < l.length + ms.length) (hz : l.length ≤ 140737488351232) (hz2 : ms.length ≤ 140737488351232) :
    Calls Tryd.prog 10 #[v, vm, .int .i64 self, .int .i64 frm, .int .i64 index, .int .i64 piece, .bool yes] w fun e w' => e = .returned (.bool true) ∧ Below w.heap.size w w' := by
  obtain ⟨A, cap, rfl, hlc, hcm, -, -⟩ := h
  obtain ⟨A', cap', rfl, hlc', hcm', -, -⟩ := hm
  clear hcm hcm' hlc hlc'
  have hb : (300 : Int) < (l.length : Int) + (ms.length : Int) := by omega
  go_enter Tryd.func10, Tryd.ntmps10
  go_wp2_with (go_at_call 12; refine (leadAwk _).mono ?_; rintro e w' ⟨rfl, hb⟩)
  go_ret
  exact ⟨rfl, by assumption⟩

set_option maxRecDepth 100000 in
set_option maxHeartbeats 4000000 in
theorem books_walk (l : List Bk) (ms : List Int) (v vm : Value) (self frm index piece : Int) (yes : Bool) (w : World) (h : Sl 4 bkRow w.heap.size w v l) (hm : Sl 1 i64Row w.heap.size w vm ms) (hsm : l.length + ms.length ≤ 300) (hix : -9223372036854775808 ≤ index) :
    Calls Tryd.prog 10 #[v, vm, .int .i64 self, .int .i64 frm, .int .i64 index, .int .i64 piece, .bool yes] w fun e w' => e = .returned (.bool true) ∧ Below w.heap.size w w' := by
  obtain ⟨A, cap, hv, hlc, hcm, -, -⟩ := id h
  obtain ⟨A', cap', hv', hlc', hcm', -, -⟩ := id hm
  subst hv hv'
  clear hcm hcm'
  have g0 : ¬ (300 : Int) < (l.length : Int) + (ms.length : Int) := by omega
  have g1 : (l.length : Int) + (ms.length : Int) ≤ 300 := by omega
  go_enter Tryd.func10, Tryd.ntmps10
  go_wp2_with fail
  refine (farL l _ index _ h).mono ?_
  rintro e w0 ⟨b, rfl, hnear, rfl⟩
  cases b with
  | true =>
    clear hnear
    go_wp2_with (go_at_call 12; refine (leadAwk _).mono ?_; rintro e w' ⟨rfl, hb⟩)
    go_ret
    exact ⟨rfl, hb⟩
  | false =>
    have HNr := Lib.hid (hnear rfl)
    clear hnear
    have h1 := h.below (below_new w (.cells #[] 24))
    go_wp2_with (at_builtin; refine wpList_append_all _ rfl (.tmp 34) (.tmp 35) 26 rfl w.heap.size 24 _ 4 32 Tryd.underlying26 bookInfo rfl (by omega) bkRow bkRow_length bkRow_one [] _ rfl (Own.made _ _ _ _) l w.heap.size _ h1 rfl (by unfold maxLen; simp; omega) (by simp; omega) (by simp) ?_; intro vin w1 q1 q2 q3 q4 q5)
    have hB : Below w.heap.size w w1 := (below_new w (.cells #[] 24)).trans q2
    have hin : Sl 4 bkRow w1.heap.size w1 vin l := (show Own 4 bkRow 24 w.heap.size w1 vin l by simpa using q1).sl bkRow_length
    have hl := h.later hB
    have hms := hm.later hB
    clear h1 q1 q2 q3 q4 q5 h hm
    have P := hB
    obtain ⟨y, hy⟩ : ∃ y, fndBk l frm = y := ⟨_, rfl⟩
    obtain ⟨s, hs⟩ : ∃ s, hasBk l frm = s := ⟨_, rfl⟩
    obtain ⟨r, hr0⟩ : ∃ r, bksRight l = r := ⟨_, rfl⟩
    have HY := Lib.hid hy
    have HS := Lib.hid hs
    have HR := Lib.hid hr0
    obtain ⟨⟨n1, n2⟩, n3⟩ := HNr.out
    have HN3 := Lib.hid n3
    clear hB hy hs hr0 n3
    refine (lentInts ms _ _ hms (by omega)).mono ?_
    rintro e w2 ⟨vx, rfl, hx, hb⟩
    have hin := hin.later hb
    have hms := hms.later hb
    have hl := hl.later hb
    have P := below_call P hb
    clear hb
    go_wp2_with fail
    refine (refsL l _ _ hl (by omega)).mono ?_
    rintro e w3 ⟨vr, rfl, ho, hb⟩
    have hin := hin.later hb
    have hms := hms.later hb
    have hl := hl.later hb
    have hx := hx.later hb
    have P := below_call P hb
    clear hb
    have hr := ho.sl bkRow_length
    clear ho hl
    go_wp2_with fail
    refine (findAny frm l _ _ hin).mono ?_
    rintro e w4 ⟨rfl, hb⟩
    rw [HY.out, HS.out]
    have hin := hin.later hb
    have hms := hms.later hb
    have hx := hx.later hb
    have hr := hr.later hb
    have P := below_call P hb
    clear hb
    go_wp2_with fail
    have hin := hin.alloc (.cells #[.int .i64 y.who, .int .i64 y.next, .int .i64 y.mat, .int .i64 y.piece] 24)
    have hms := hms.alloc (.cells #[.int .i64 y.who, .int .i64 y.next, .int .i64 y.mat, .int .i64 y.piece] 24)
    have hx := hx.alloc (.cells #[.int .i64 y.who, .int .i64 y.next, .int .i64 y.mat, .int .i64 y.piece] 24)
    have hr := hr.alloc (.cells #[.int .i64 y.who, .int .i64 y.next, .int .i64 y.mat, .int .i64 y.piece] 24)
    have P := below_call P (below_new w4 (.cells #[.int .i64 y.who, .int .i64 y.next, .int .i64 y.mat, .int .i64 y.piece] 24))
    have ba := Box.new w4 #[.int .i64 y.who, .int .i64 y.next, .int .i64 y.mat, .int .i64 y.piece] 24
    refine (rFind frm l _ _ hr).mono ?_
    rintro e w5 ⟨rfl, hb⟩
    rw [HY.out, HS.out]
    have hin := hin.later hb
    have hms := hms.later hb
    have hx := hx.later hb
    have hr := hr.later hb
    have P := below_call P hb
    have ba := ba.later hb
    clear hb
    obtain ⟨kba, -, zba⟩ := ba.facts
    go_wp2_with fail
    have hin := hin.alloc (.cells #[.int .i64 y.who, .int .i64 y.next, .int .i64 y.mat, .int .i64 y.piece] 67)
    have hms := hms.alloc (.cells #[.int .i64 y.who, .int .i64 y.next, .int .i64 y.mat, .int .i64 y.piece] 67)
    have hx := hx.alloc (.cells #[.int .i64 y.who, .int .i64 y.next, .int .i64 y.mat, .int .i64 y.piece] 67)
    have hr := hr.alloc (.cells #[.int .i64 y.who, .int .i64 y.next, .int .i64 y.mat, .int .i64 y.piece] 67)
    have ba := ba.alloc (.cells #[.int .i64 y.who, .int .i64 y.next, .int .i64 y.mat, .int .i64 y.piece] 67)
    have P := below_call P (below_new w5 (.cells #[.int .i64 y.who, .int .i64 y.next, .int .i64 y.mat, .int .i64 y.piece] 67))
    have bb := Box.new w5 #[.int .i64 y.who, .int .i64 y.next, .int .i64 y.mat, .int .i64 y.piece] 67
    refine (right l _ _ hin (fun x hx => (HN3.out x hx).1)).mono ?_
    rintro e w6 ⟨rfl, hb⟩
    rw [HR.out]
    have hin := hin.later hb
    have hms := hms.later hb
    have hx := hx.later hb
    have hr := hr.later hb
    have P := below_call P hb
    have ba := ba.later hb
    have bb := bb.later hb
    clear hb kba zba
    obtain ⟨kba, -, zba⟩ := ba.facts
    obtain ⟨kbb, -, zbb⟩ := bb.facts
    go_wp2_with fail
    refine (rRight l _ _ hr).mono ?_
    rintro e w7 ⟨rfl, hb⟩
    rw [HR.out]
    have hin := hin.later hb
    have hms := hms.later hb
    have hx := hx.later hb
    have hr := hr.later hb
    have P := below_call P hb
    have ba := ba.later hb
    have bb := bb.later hb
    clear hb kba zba kbb zbb
    obtain ⟨kba, -, zba⟩ := ba.facts
    obtain ⟨kbb, -, zbb⟩ := bb.facts
    go_wp2_with fail
    refine (begin_ ms _ self index _ hx.sl (by omega) (by omega) (by omega)).mono ?_
    rintro e w8 ⟨v1, rfl, ho, hb⟩
    have hin := hin.later hb
    have hms := hms.later hb
    have hx := hx.later hb
    have hr := hr.later hb
    have P := below_call P hb
    clear hb kba zba kbb zbb
    have h1 := ho.sl bkRow_length
    clear ho
    go_wp2_with fail
    refine (rBegin ms _ self index _ hms (by omega) (by omega) (by omega)).mono ?_
    rintro e w9 ⟨v2, rfl, ho, hb⟩
    have hin := hin.later hb
    have hms := hms.later hb
    have hx := hx.later hb
    have hr := hr.later hb
    have h1 := h1.later hb
    have P := below_call P hb
    clear hb
    have h2 := ho.sl bkRow_length
    clear ho
    go_wp2_with fail
    refine (sameBks' _ _ _ _ h1 h2).mono ?_
    rintro e w10 ⟨rfl, hb⟩
    have hin := hin.later hb
    have hms := hms.later hb
    have hx := hx.later hb
    have hr := hr.later hb
    have h1 := h1.later hb
    have h2 := h2.later hb
    have P := below_call P hb
    clear hb
    clear h1 h2
    go_wp2_with fail
    refine (keep l ms _ _ self index _ hin hx.sl (by omega) (by omega) (by omega)).mono ?_
    rintro e w11 ⟨v1, rfl, ho, hb⟩
    have hin := hin.later hb
    have hms := hms.later hb
    have hx := hx.later hb
    have hr := hr.later hb
    have P := below_call P hb
    clear hb
    have h1 := ho.sl bkRow_length
    clear ho
    go_wp2_with fail
    refine (rKeep l ms _ _ self index _ hr hms (by omega) (by omega) (by omega)).mono ?_
    rintro e w12 ⟨v2, rfl, ho, hb⟩
    have hin := hin.later hb
    have hms := hms.later hb
    have hx := hx.later hb
    have hr := hr.later hb
    have h1 := h1.later hb
    have P := below_call P hb
    clear hb
    have h2 := ho.sl bkRow_length
    clear ho
    go_wp2_with fail
    refine (sameBks' _ _ _ _ h1 h2).mono ?_
    rintro e w13 ⟨rfl, hb⟩
    have hin := hin.later hb
    have hms := hms.later hb
    have hx := hx.later hb
    have hr := hr.later hb
    have h1 := h1.later hb
    have h2 := h2.later hb
    have P := below_call P hb
    clear hb
    clear h1 h2
    go_wp2_with fail
    refine (ack l _ frm index yes _ hin (by omega) HN3.out (by omega)).mono ?_
    rintro e w14 ⟨v1, rfl, ho, hb⟩
    have hin := hin.later hb
    have hms := hms.later hb
    have hx := hx.later hb
    have hr := hr.later hb
    have P := below_call P hb
    clear hb
    have h1 := ho
    clear ho
    go_wp2_with fail
    refine (rAck l _ frm index yes _ hr (by omega) HN3.out (by omega)).mono ?_
    rintro e w15 ⟨v2, rfl, ho, hb⟩
    have hin := hin.later hb
    have hms := hms.later hb
    have hx := hx.later hb
    have hr := hr.later hb
    have h1 := h1.later hb
    have P := below_call P hb
    clear hb
    have h2 := ho
    clear ho
    go_wp2_with fail
    refine (sameBks' _ _ _ _ h1 h2).mono ?_
    rintro e w16 ⟨rfl, hb⟩
    have hin := hin.later hb
    have hms := hms.later hb
    have hx := hx.later hb
    have hr := hr.later hb
    have h1 := h1.later hb
    have h2 := h2.later hb
    have P := below_call P hb
    clear hb
    clear h1 h2
    go_wp2_with fail
    refine (got l _ frm index piece yes _ hin (by omega) (fun x hx => (HN3.out x hx).1)).mono ?_
    rintro e w17 ⟨v1, rfl, ho, hb⟩
    have hin := hin.later hb
    have hms := hms.later hb
    have hx := hx.later hb
    have hr := hr.later hb
    have P := below_call P hb
    clear hb
    have h1 := ho
    clear ho
    go_wp2_with fail
    refine (rGot l _ frm index piece yes _ hr (by omega) HN3.out).mono ?_
    rintro e w18 ⟨v2, rfl, ho, hb⟩
    have hin := hin.later hb
    have hms := hms.later hb
    have hx := hx.later hb
    have hr := hr.later hb
    have h1 := h1.later hb
    have P := below_call P hb
    clear hb
    have h2 := ho
    clear ho
    go_wp2_with fail
    refine (sameBks' _ _ _ _ h1 h2).mono ?_
    rintro e w19 ⟨rfl, hb⟩
    have hin := hin.later hb
    have hms := hms.later hb
    have hx := hx.later hb
    have hr := hr.later hb
    have h1 := h1.later hb
    have h2 := h2.later hb
    have P := below_call P hb
    clear hb
    clear h1 h2
    go_wp2_with fail
    refine (lMatches l ms _ _ self index _ hin hx.sl (by omega)).mono ?_
    rintro e w20 ⟨v1, rfl, ho, hb⟩
    have hin := hin.later hb
    have hms := hms.later hb
    have hx := hx.later hb
    have hr := hr.later hb
    have P := below_call P hb
    clear hb
    have h1 := ho.sl i64Row_length
    clear ho
    go_wp2_with fail
    refine (rMatches l ms _ _ self index _ hr hms (by omega)).mono ?_
    rintro e w21 ⟨v2, rfl, ho, hb⟩
    have hin := hin.later hb
    have hms := hms.later hb
    have hx := hx.later hb
    have hr := hr.later hb
    have h1 := h1.later hb
    have P := below_call P hb
    clear hb
    have h2 := ho.sl i64Row_length
    clear ho
    go_wp2_with fail
    refine (sameInts' _ _ _ _ h1 h2).mono ?_
    rintro e w22 ⟨rfl, hb⟩
    have hin := hin.later hb
    have hms := hms.later hb
    have hx := hx.later hb
    have hr := hr.later hb
    have h1 := h1.later hb
    have h2 := h2.later hb
    have P := below_call P hb
    clear hb
    clear h1 h2
    go_wp2_with fail
    refine (sameBks' l _ _ _ hin hr).mono ?_
    rintro e w23 ⟨rfl, hb⟩
    have hin := hin.later hb
    have hms := hms.later hb
    have hx := hx.later hb
    have hr := hr.later hb
    have P := below_call P hb
    clear hb
    go_wp2_with fail
    refine (keptInts' ms _ _ _ hx hms (by omega)).mono ?_
    rintro e w24 ⟨rfl, hb⟩
    have hin := hin.later hb
    have hms := hms.later hb
    have hx := hx.later hb
    have hr := hr.later hb
    have P := below_call P hb
    clear hb
    go_wp2_with fail
    refine (leadAwk _).mono ?_
    rintro e w25 ⟨rfl, hb⟩
    have P := below_call P hb
    clear hb
    go_wp2_with fail
    go_ret
    exact ⟨rfl, P⟩
end Go.Proofs.YtnhodaconlodbaaDoor
