/-
  THE PACKAGE abstain, 1: members, what is sound, who may lead: contracts.
-/
import Derived.Test.YtaembglohjgkhaaDoorErrAb3
import Derived.Test.YtaembglohjgkhaaDoorKitInts
import Derived.Test.YtaembglohjgkhaaDoorAbMath
set_option linter.unusedVariables false
namespace Go.Proofs.YtaembglohjgkhaaDoor
open Go.RowKit

def IdxPost (l : List Int) (x : Int) (w : World) (e : Ending) (w' : World) : Prop := ∃ r : Int, e = .returned (.int .i64 r) ∧ decide (0 ≤ r) = inB l x ∧ w = w'
theorem idxPost_mk {l : List Int} {x r : Int} {w : World} (h : decide (0 ≤ r) = inB l x) : IdxPost l x w (.returned (.int .i64 r)) w := ⟨r, rfl, h, rfl⟩

set_option maxHeartbeats 1000000 in
theorem idxInts (l : List Int) (x : Int) (v : Value) (w : World) (h : Sl 1 i64Row w.heap.size w v l) :
    Calls Tryd.prog 39 #[v, .int .i64 x] w (IdxPost l x w) := by
  obtain ⟨A, cap, rfl, hlc, hcm, -, hA⟩ := h
  have hn : l.length ≤ 9223372036854775807 := by unfold maxLen at hcm; omega
  clear hcm
  go_enter Tryd.func39, Tryd.ntmps39
  go_wp2_with fail
  go_loop [5, 8] (fun _ i => ∃ k : Nat, k ≤ l.length ∧ i = .int .i64 k ∧ OutTo l x k) (fun _ i => l.length - (intOf i).toNat)
  case atStart => exact ⟨0, by omega, rfl, outTo_zero⟩
  case round =>
    obtain ⟨k, hk, rfl, hno⟩ := hrel
    by_cases hlt : k < l.length
    · obtain ⟨b, off, rfl, hb, hcell⟩ := hA (by intro h; subst h; simp at hlt)
      obtain ⟨y, hy⟩ : ∃ y, l[k]? = some y := ⟨_, List.getElem?_eq_getElem hlt⟩
      have c0 : w.cell? ⟨b, off + k, none⟩ = some (.int .i64 y) := by simpa using hcell k y hy 0 _ rfl
      have HY := Lib.hid hy
      have HN := Lib.hid hno
      clear hcell hy hA hno
      by_cases he : y = x
      · have e1 : (x == y) = true := by simpa using he.symm
        have HI := Lib.hid (in_found HY.out he)
        clear he
        go_wp2_with fail
        go_ret
        exact idxPost_mk (r := (k : Int)) (by rw [HI.out]; simp)
      · have e1 : (x == y) = false := by simpa using fun h => he h.symm
        have HE := Lib.hid he
        clear he
        go_wp2_with fail
        go_round
        case rel => exact ⟨k + 1, by omega, by go_num, outTo_succ HN.out HY.out HE.out⟩
        case measure => simp [intOf]; omega
    · have hk' : k = l.length := by omega
      have HI := Lib.hid (in_none (by rw [← hk']; exact hno))
      clear hno hk'
      go_wp2_with fail
      go_ret
      exact idxPost_mk (r := -1) (by rw [HI.out]; rfl)

set_option maxHeartbeats 400000 in
theorem hasInts (l : List Int) (x : Int) (v : Value) (w : World) (h : Sl 1 i64Row w.heap.size w v l) :
    Calls Tryd.prog 38 #[v, .int .i64 x] w fun e w' => e = .returned (.bool (inB l x)) ∧ w = w' := by
  go_enter Tryd.func38, Tryd.ntmps38
  go_wp2_with fail
  refine (idxInts l x v w h).mono ?_
  rintro e w' ⟨r, rfl, hr, rfl⟩
  have HR := Lib.hid hr
  clear hr
  go_wp2_with fail
  go_ret
  exact ⟨ret_bool HR.out, rfl⟩
set_option maxHeartbeats 400000 in
theorem rowHas (l : List Int) (x : Int) (v : Value) (w : World) (h : Sl 1 i64Row w.heap.size w v l) :
    Calls Tryd.prog 35 #[v, .int .i64 x] w fun e w' => e = .returned (.bool (inB l x)) ∧ w = w' := by
  go_enter Tryd.func35, Tryd.ntmps35
  go_wp2_with fail
  refine (hasInts l x v w h).mono ?_
  rintro e w' ⟨rfl, rfl⟩
  go_wp2_with fail
  go_ret
  exact ⟨rfl, rfl⟩
set_option maxHeartbeats 400000 in
theorem groupIn (l : List Int) (x : Int) (v : Value) (w : World) (h : Sl 1 i64Row w.heap.size w v l) :
    Calls Tryd.prog 29 #[v, .int .i64 x] w fun e w' => e = .returned (.bool (inB l x)) ∧ w = w' := by
  go_enter Tryd.func29, Tryd.ntmps29
  go_wp2_with fail
  refine (rowHas l x v w h).mono ?_
  rintro e w' ⟨rfl, rfl⟩
  go_wp2_with fail
  go_ret
  exact ⟨rfl, rfl⟩

set_option maxHeartbeats 1000000 in
theorem rIn (l : List Int) (x : Int) (v : Value) (w : World) (h : Sl 1 i64Row w.heap.size w v l) :
    Calls Tryd.prog 26 #[v, .int .i64 x] w fun e w' => e = .returned (.bool (inB l x)) ∧ w = w' := by
  obtain ⟨A, cap, rfl, hlc, hcm, -, hA⟩ := h
  have hn : l.length ≤ 9223372036854775807 := by unfold maxLen at hcm; omega
  clear hcm
  go_enter Tryd.func26, Tryd.ntmps26
  go_wp2_with fail
  go_loop [5] (fun i => ∃ k : Nat, k ≤ l.length ∧ i = .int .i64 k ∧ OutTo l x k) (fun i => l.length - (intOf i).toNat)
  case atStart => exact ⟨0, by omega, rfl, outTo_zero⟩
  case round =>
    obtain ⟨k, hk, rfl, hno⟩ := hrel
    by_cases hlt : k < l.length
    · obtain ⟨b, off, rfl, hb, hcell⟩ := hA (by intro h; subst h; simp at hlt)
      obtain ⟨y, hy⟩ : ∃ y, l[k]? = some y := ⟨_, List.getElem?_eq_getElem hlt⟩
      have c0 : w.cell? ⟨b, off + k, none⟩ = some (.int .i64 y) := by simpa using hcell k y hy 0 _ rfl
      have HY := Lib.hid hy
      have HN := Lib.hid hno
      clear hcell hy hA hno
      by_cases he : y = x
      · have e1 : (y == x) = true := by simpa using he
        have HI := Lib.hid (in_found HY.out he)
        clear he
        go_wp2_with fail
        go_ret
        exact ⟨ret_bool HI.out.symm, rfl⟩
      · have e1 : (y == x) = false := by simpa using he
        have HE := Lib.hid he
        clear he
        go_wp2_with fail
        go_round
        case rel => exact ⟨k + 1, by omega, by go_num, outTo_succ HN.out HY.out HE.out⟩
        case measure => simp [intOf]; omega
    · have hk' : k = l.length := by omega
      have HI := Lib.hid (in_none (by rw [← hk']; exact hno))
      clear hno hk'
      go_wp2_with fail
      go_ret
      exact ⟨ret_bool HI.out.symm, rfl⟩

/-- The error of what is not sound. -/
def rotV (o : Option Idt) : Value := match o with
  | none => .nilIface
  | some x => .iface 86 (.agg #[.int .i64 x.idx, .int .i64 x.trm, .int .i64 x.knd, .int .i64 15])

set_option maxHeartbeats 1000000 in
theorem soundL (l : List Idt) (v : Value) (w : World) (h : Sl 3 idRow w.heap.size w v l) :
    Calls Tryd.prog 30 #[v] w fun e w' => e = .returned (rotV (firstBad l)) ∧ Below w.heap.size w w' := by
  obtain ⟨A, cap, rfl, hlc, hcm, -, hA⟩ := h
  have hn : l.length ≤ 9223372036854775807 := by unfold maxLen at hcm; omega
  clear hcm
  go_enter Tryd.func30, Tryd.ntmps30
  go_wp2_with fail
  go_loopw [4, 7] (fun _ i wr => ∃ k : Nat, k ≤ l.length ∧ i = .int .i64 k ∧ SoundTo l k ∧ Below w.heap.size w wr) (fun _ i _ => l.length - (intOf i).toNat)
  case atStart => exact ⟨0, by omega, rfl, soundTo_zero, Below.refl _ _⟩
  case round =>
    obtain ⟨k, hk, rfl, hno, hB⟩ := hrel
    by_cases hlt : k < l.length
    · obtain ⟨b, off, rfl, hb, hcell⟩ := hA (by intro h; subst h; simp at hlt)
      obtain ⟨x, hx⟩ : ∃ x, l[k]? = some x := ⟨_, List.getElem?_eq_getElem hlt⟩
      have c0 := (hB.cell (p := ⟨b, off + k * 3, none⟩) hb).trans (hcell k x hx 0 _ rfl)
      have c1 := (hB.cell (p := ⟨b, off + k * 3 + 1, none⟩) hb).trans (hcell k x hx 1 _ rfl)
      have c2 := (hB.cell (p := ⟨b, off + k * 3 + 2, none⟩) hb).trans (hcell k x hx 2 _ rfl)
      have HX := Lib.hid hx
      have HN := Lib.hid hno
      have HB := Lib.hid (hB.alloc hB.size (.cells #[.int .i64 x.idx, .int .i64 x.trm, .int .i64 x.knd] 46))
      clear hcell hx hA hno hB
      by_cases h1 : x.knd = 1
      · have e1 : (x.knd == 1) = true := by simpa using h1
        have HK := Lib.hid (show badKind x = false by simp [badKind, h1])
        clear h1
        go_wp2_with fail
        go_roundw
        case rel => exact ⟨k + 1, by omega, by go_num, soundTo_succ HN.out HX.out HK.out, HB.out⟩
        case measure => simp [intOf]; omega
      · have e1 : (x.knd == 1) = false := by simpa using h1
        by_cases h2 : x.knd = 2
        · have e2 : (x.knd == 2) = true := by simpa using h2
          have HK := Lib.hid (show badKind x = false by simp [badKind, h2])
          clear h1 h2
          go_wp2_with fail
          go_roundw
          case rel => exact ⟨k + 1, by omega, by go_num, soundTo_succ HN.out HX.out HK.out, HB.out⟩
          case measure => simp [intOf]; omega
        · have e2 : (x.knd == 2) = false := by simpa using h2
          have HF := Lib.hid (firstBad_found HN.out HX.out (by simp [badKind, h1, h2]))
          clear h1 h2
          by_cases h3 : x.knd = 3
          · have e3 : (x.knd == 3) = true := by simpa using h3
            clear h3
            go_wp2_with fail
            go_ret
            exact ⟨by rw [HF.out]; rfl, HB.out⟩
          · have e3 : (x.knd == 3) = false := by simpa using h3
            clear h3
            go_wp2_with fail
            go_ret
            exact ⟨by rw [HF.out]; rfl, HB.out⟩
    · have hk' : k = l.length := by omega
      have HF := Lib.hid (firstBad_none (by rw [← hk']; exact hno))
      clear hno hk'
      go_wp2_with fail
      go_ret
      exact ⟨by rw [HF.out]; rfl, hB⟩

/-- The error of who may not lead. -/
def leadV (lost : Bool) (self : Int) (ms : List Int) (l : List Idt) : Value :=
  if lost then .iface 54 (.int .i64 10) else if inB ms self = false then .iface 54 (.int .i64 15) else rotV (firstBad l)

set_option maxHeartbeats 1000000 in
theorem leadsErr (lost : Bool) (self : Int) (ms : List Int) (l : List Idt) (Am Ar : Option Addr) (cm cr : Nat) (w : World) (hm : Sl 1 i64Row w.heap.size w (.slice Am ms.length cm) ms) (hl : Sl 3 idRow w.heap.size w (.slice Ar l.length cr) l) :
    Calls Tryd.prog 24 #[.agg #[.bool lost, .int .i64 self, .slice Am ms.length cm, .slice Ar l.length cr]] w fun e w' => e = .returned (leadV lost self ms l) ∧ Below w.heap.size w w' := by
  have hm2 := hm.alloc (.cells #[.bool lost, .int .i64 self, .slice Am ms.length cm, .slice Ar l.length cr] 25)
  have hl2 := hl.alloc (.cells #[.bool lost, .int .i64 self, .slice Am ms.length cm, .slice Ar l.length cr] 25)
  cases lost with
  | true =>
    go_enter Tryd.func24, Tryd.ntmps24
    go_wp2_with fail
    go_ret
    exact ⟨rfl, below_new _ _⟩
  | false =>
    cases hi : inB ms self with
    | false =>
      have HI := Lib.hid hi
      clear hi
      go_enter Tryd.func24, Tryd.ntmps24
      go_wp2_with (go_at_call 29; refine (groupIn ms self _ _ hm2).mono ?_; rintro e w' ⟨rfl, rfl⟩; rw [HI.out])
      go_ret
      exact ⟨by simp [leadV, HI.out], below_new _ _⟩
    | true =>
      have HI := Lib.hid hi
      clear hi
      go_enter Tryd.func24, Tryd.ntmps24
      go_wp2_with (first | (go_at_call 29; refine (groupIn ms self _ _ hm2).mono ?_; rintro e w' ⟨rfl, rfl⟩; rw [HI.out]) | (go_at_call 30; refine (soundL l _ _ hl2).mono ?_; rintro e w' ⟨rfl, hb⟩))
      go_ret
      exact ⟨by simp [leadV, HI.out], below_call (below_new _ _) (by assumption)⟩

set_option maxHeartbeats 1000000 in
theorem votesB (lost : Bool) (self : Int) (ms : List Int) (l : List Idt) (Am Ar : Option Addr) (cm cr : Nat) (w : World) (hm : Sl 1 i64Row w.heap.size w (.slice Am ms.length cm) ms) (hl : Sl 3 idRow w.heap.size w (.slice Ar l.length cr) l) :
    Calls Tryd.prog 9 #[.agg #[.bool lost, .int .i64 self, .slice Am ms.length cm, .slice Ar l.length cr]] w fun e w' => e = .returned (.bool (!lost)) ∧ Below w.heap.size w w' := by
  have hm2 := hm.alloc (.cells #[.bool lost, .int .i64 self, .slice Am ms.length cm, .slice Ar l.length cr] 25)
  have hl2 := hl.alloc (.cells #[.bool lost, .int .i64 self, .slice Am ms.length cm, .slice Ar l.length cr] 25)
  go_enter Tryd.func9, Tryd.ntmps9
  go_wp2_with fail
  refine (leadsErr lost self ms l Am Ar cm cr _ hm2 hl2).mono ?_
  rintro e w1 ⟨rfl, hb⟩
  have hB := below_call (below_new _ _) hb
  clear hb
  unfold leadV
  cases lost with
  | true =>
    simp only [if_true]
    go_wp2_with fail
    refine (is_num 10 10 _).mono ?_
    rintro e w2 ⟨rfl, hb⟩
    go_wp2_with fail
    go_ret
    exact ⟨rfl, below_call hB hb⟩
  | false =>
    cases hi : inB ms self with
    | false =>
      simp only [Bool.false_eq_true, if_false, if_true]
      go_wp2_with fail
      refine (is_num 15 10 _).mono ?_
      rintro e w2 ⟨rfl, hb⟩
      go_wp2_with fail
      go_ret
      exact ⟨rfl, below_call hB hb⟩
    | true =>
      simp only [Bool.false_eq_true, Bool.true_eq_false, if_false]
      cases hf : firstBad l with
      | none =>
        simp only [rotV]
        go_wp2_with fail
        refine (is_nil 10 _).mono ?_
        rintro e w2 ⟨rfl, rfl⟩
        go_wp2_with fail
        go_ret
        exact ⟨rfl, hB⟩
      | some x =>
        simp only [rotV]
        go_wp2_with fail
        refine (is_wrap x.idx x.trm x.knd 15 10 _).mono ?_
        rintro e w2 ⟨rfl, hb⟩
        go_wp2_with fail
        go_ret
        exact ⟨rfl, below_call hB hb⟩

set_option maxHeartbeats 1000000 in
theorem leadsB (lost : Bool) (self : Int) (ms : List Int) (l : List Idt) (Am Ar : Option Addr) (cm cr : Nat) (w : World) (hm : Sl 1 i64Row w.heap.size w (.slice Am ms.length cm) ms) (hl : Sl 3 idRow w.heap.size w (.slice Ar l.length cr) l) (hG : errTypeIs w) :
    Calls Tryd.prog 11 #[.agg #[.bool lost, .int .i64 self, .slice Am ms.length cm, .slice Ar l.length cr]] w fun e w' => e = .returned (.int .i64 (leadsI lost self ms l)) ∧ Below w.heap.size w w' := by
  have hm2 := (hm.alloc (.cells #[.bool lost, .int .i64 self, .slice Am ms.length cm, .slice Ar l.length cr] 25)).alloc (.cells #[.int .i64 0] 54)
  have hl2 := (hl.alloc (.cells #[.bool lost, .int .i64 self, .slice Am ms.length cm, .slice Ar l.length cr] 25)).alloc (.cells #[.int .i64 0] 54)
  have HG := Lib.hid hG
  clear hG
  go_enter Tryd.func11, Tryd.ntmps11
  go_wp2_with fail
  refine (leadsErr lost self ms l Am Ar cm cr _ hm2 hl2).mono ?_
  rintro e w1 ⟨rfl, hb⟩
  have hB := below_call (below_call (below_new _ _) (below_new _ _)) hb
  have pn : Box w1 (w.heap.size + 1) #[.int .i64 0] 54 := by
    have := (Box.new (w.alloc (.cells #[.bool lost, .int .i64 self, .slice Am ms.length cm, .slice Ar l.length cr] 25)) #[.int .i64 0] 54).later hb
    rwa [World.size_alloc] at this
  clear hb
  have hG1 := errType_later HG.out hB
  unfold leadV
  have fin : ∀ (n : Int) (w2 : World), Box w2 (w.heap.size + 1) #[.int .i64 n] 54 → But (w.heap.size + 1) w1 w2 → Below w.heap.size w w2 := fun n w2 _ hbut => hB.trans (hbut.below (by omega) hB.size)
  have FIN := Lib.hid fin
  clear fin
  cases lost with
  | true =>
    simp only [if_true]
    go_wp2_with fail
    refine (as_num (w.heap.size + 1) 10 _ _ hG1 pn).mono ?_
    rintro e w2 ⟨rfl, p2, hbut⟩
    obtain ⟨k2, -, z2⟩ := p2.facts
    have HB2 := Lib.hid (FIN.out _ _ p2 hbut)
    clear hbut
    go_wp2_with fail
    go_ret
    exact ⟨rfl, HB2.out⟩
  | false =>
    cases hi : inB ms self with
    | false =>
      have HI := Lib.hid (show leadsI false self ms l = 15 by simp [leadsI, hi])
      clear hi
      simp only [Bool.false_eq_true, if_false, if_true]
      go_wp2_with fail
      refine (as_num (w.heap.size + 1) 15 _ _ hG1 pn).mono ?_
      rintro e w2 ⟨rfl, p2, hbut⟩
      obtain ⟨k2, -, z2⟩ := p2.facts
      have HB2 := Lib.hid (FIN.out _ _ p2 hbut)
      clear hbut
      go_wp2_with fail
      go_ret
      exact ⟨ret_int HI.out.symm, HB2.out⟩
    | true =>
      simp only [Bool.false_eq_true, Bool.true_eq_false, if_false]
      cases hf : firstBad l with
      | none =>
        have HI := Lib.hid (show leadsI false self ms l = 0 by simp [leadsI, hi, hf])
        clear hi hf
        simp only [rotV]
        go_wp2_with fail
        refine (as_nil _ _).mono ?_
        rintro e w2 ⟨rfl, rfl⟩
        go_wp2_with fail
        go_ret
        exact ⟨ret_int HI.out.symm, hB⟩
      | some x =>
        have HI := Lib.hid (show leadsI false self ms l = 15 by simp [leadsI, hi, hf])
        clear hi hf
        simp only [rotV]
        go_wp2_with fail
        refine (as_rot (w.heap.size + 1) x.idx x.trm x.knd 15 _ _ hG1 pn).mono ?_
        rintro e w2 ⟨rfl, p2, hbut⟩
        obtain ⟨k2, -, z2⟩ := p2.facts
        have HB2 := Lib.hid (FIN.out _ _ p2 hbut)
        clear hbut
        go_wp2_with fail
        go_ret
        exact ⟨ret_int HI.out.symm, HB2.out⟩
end Go.Proofs.YtaembglohjgkhaaDoor
