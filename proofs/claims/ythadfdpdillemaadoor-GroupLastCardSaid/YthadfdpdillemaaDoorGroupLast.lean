/-
  GroupLast: true. Condition: errors.errorType holds its value.
-/
import Derived.Test.YthadfdpdillemaaDoorGroupOf2
import Derived.Test.YthadfdpdillemaaDoorGroupMeets
import Derived.Test.YthadfdpdillemaaDoorSameAny
import Derived.Test.YthadfdpdillemaaDoorEntAwake
import Derived.Test.YthadfdpdillemaaDoorSlCut
import Derived.Test.YthadfdpdillemaaDoorMatchMath
import Derived.Deep.RegionHeld3
import Derived.Deep.DeepCutAuto
set_option linter.unusedVariables false
set_option linter.unusedSimpArgs false
namespace Go.Proofs.YthadfdpdillemaaDoor
open Go.RowKit

theorem entInfoG : (Tryd.prog.info? 44).map (fun i => (i.zero, i.size, i.bytes)) = some (some (.agg #[.int .i64 0, .int .i64 0, .int .i64 0, .slice none 0 0]), 4, 48) := by kernel_rfl
def two8 (Ab : Option Addr) (cb : Nat) (body : List Int) : List Ent := [⟨7, 0, 2, Ab, cb, body⟩, ⟨8, 0, 1, none, 0, []⟩]
theorem two8_no (Ab : Option Addr) (cb : Nat) (body : List Int) : ∀ y ∈ two8 Ab cb body, grpE y = false := by
  intro y hy
  simp only [two8, List.mem_cons, List.not_mem_nil, or_false] at hy
  rcases hy with rfl | rfl <;> simp [grpE]
theorem entIn_later {w w' : World} {x : Ent} (h : EntIn w.heap.size w x) (hb : Below w.heap.size w w') : EntIn w'.heap.size w' x := ⟨h.1.later hb, h.2⟩

set_option maxRecDepth 100000 in
set_option maxHeartbeats 8000000 in
theorem groupLast (base : List Int) (l : List Ent) (cut : Int) (body members : List Int) (v vl vb vm : Value) (w : World) (h : Sl 1 i64Row w.heap.size w v base) (hl : Sl 4 entRow w.heap.size w vl l) (hin : ∀ x ∈ l, EntIn w.heap.size w x ∧ x.bd.length ≤ 140737488351232) (hbo : Sl 1 u8Row w.heap.size w vb body) (hbb : ∀ x ∈ body, 0 ≤ x ∧ x ≤ 255) (hm : Sl 1 i64Row w.heap.size w vm members)
    (z0 : base.length ≤ 140737488351232) (z3 : body.length ≤ 140737488351232) (z4 : members.length ≤ 140737488351232) (zc : I64 cut) (hG : errTypeIs w) :
    Calls Tryd.prog 7 #[v, vl, .int .i64 cut, vb, vm] w fun e w' => e = .returned (.bool true) ∧ Below w.heap.size w w' := by
  obtain ⟨A, cap, rfl, -⟩ := id h
  obtain ⟨Al, capl, rfl, hlc, hcm, hnn, -⟩ := id hl
  obtain ⟨Ab, cb, rfl, -⟩ := id hbo
  obtain ⟨Am, cm, rfl, -⟩ := id hm
  have HS := Lib.hid h
  have HL := Lib.hid hl
  have HIN := Lib.hid hin
  have HBO := Lib.hid hbo
  have HBB := Lib.hid hbb
  have HM := Lib.hid hm
  have HG := Lib.hid hG
  have HNN := Lib.hid hnn
  clear h hl hin hbo hbb hm hG hnn
  go_enter Tryd.func7, Tryd.ntmps7
  go_upto_region 3 with (go_at_call 29; refine (awake22 w HG.out).mono ?_; rintro e w1 ⟨rfl, hb1⟩; have HB1 := Lib.hid hb1; clear hb1)
  have n1 : wrap64 ((base.length : Int) + (body.length : Int)) = (base.length : Int) + (body.length : Int) := by unfold wrap64; omega
  have n2 : wrap64 ((base.length : Int) + (body.length : Int) + (members.length : Int)) = (base.length : Int) + (body.length : Int) + (members.length : Int) := by unfold wrap64; omega
  by_cases hs : (1000 : Int) < (base.length : Int) + (body.length : Int) + (members.length : Int)
  · have d0 : decide ((1000 : Int) < (base.length : Int) + (body.length : Int) + (members.length : Int)) = true := decide_eq_true hs
    go_wp2_with fail
    go_ret
    exact ⟨rfl, HB1.out⟩
  have d0 : decide ((1000 : Int) < (base.length : Int) + (body.length : Int) + (members.length : Int)) = false := decide_eq_false hs
  have hs0 : base.length ≤ 1000 := by omega
  have hs3 : body.length ≤ 1000 := by omega
  have hs4 : members.length ≤ 1000 := by omega
  have CE := Lib.hid (entriesOf l 1000 _ w1 (HL.out.later HB1.out) (fun x hx => (HIN.out x hx).2) (by omega))
  clear hs z0 z3 z4
  by_cases hbig : 1000 < sizeE l
  · have CE2 : Hid (Calls Tryd.prog 36 #[.slice Al l.length capl, .int .i64 1000] w1 fun e w' => ∃ n : Nat, e = .returned (.int .i64 n) ∧ (1000 : Int) < (n : Int) ∧ w1 = w') := CE.out.mono fun e w' ⟨n, he, hn, hw⟩ => ⟨n, he, by omega, hw⟩
    go_wp2_with (go_at_call 36; refine CE2.out.mono ?_; rintro e w2 ⟨n, rfl, hn, rfl⟩)
    go_ret
    exact ⟨rfl, HB1.out⟩
  have hsz : sizeE l ≤ 1000 := by omega
  have hll : l.length ≤ 1000 := Nat.le_trans (sizeE_len l) hsz
  have CE2 : Hid (Calls Tryd.prog 36 #[.slice Al l.length capl, .int .i64 1000] w1 fun e w' => ∃ n : Nat, e = .returned (.int .i64 n) ∧ (n : Int) ≤ 1000 ∧ w1 = w') := CE.out.mono fun e w' ⟨n, he, hn, hw⟩ => ⟨n, he, by omega, hw⟩
  clear hbig CE
  go_upto_region 5 with (go_at_call 36; refine CE2.out.mono ?_; rintro e w2 ⟨n, rfl, hn, rfl⟩)
  clear CE2 n1 n2 d0 hn
  have HS1 := Lib.hid (HS.out.later HB1.out)
  have HL1 := Lib.hid (HL.out.later HB1.out)
  have HI1 : Hid (∀ x ∈ l, EntIn w1.heap.size w1 x) := fun x hx => entIn_later (HIN.out x hx).1 HB1.out
  have CO := Lib.hid (groupOf base l _ _ w1 HS1.out HL1.out HI1.out (by omega) (by omega))
  obtain ⟨gm, hgm⟩ : ∃ x, (grpV base l).1 = x := ⟨_, rfl⟩
  obtain ⟨ga, hga⟩ : ∃ x, (grpV base l).2 = x := ⟨_, rfl⟩
  rw [hgm, hga] at CO
  have HGM := Lib.hid hgm
  have HGA := Lib.hid hga
  clear hgm hga
  obtain ⟨k, hk⟩ : ∃ k, pickI cut (l.length + 1) = k := ⟨_, rfl⟩
  have hkl : k ≤ l.length := by rw [← hk]; have := pickI_lt (x := cut) (n := l.length + 1) (by omega); omega
  have CP : Hid (∀ W : World, Calls Tryd.prog 38 #[.int .i64 cut, .int .i64 ((l.length : Int) + 1)] W fun e w' => e = .returned (.int .i64 (k : Int)) ∧ W = w') := fun W => by
    have h := pick_ cut (l.length + 1) W (by omega) (by omega) zc.1 zc.2
    rw [hk] at h
    exact h
  have n3 : wrap64 ((l.length : Int) + 1) = (l.length : Int) + 1 := by unfold wrap64; omega
  clear hk
  go_upto_region 7 with (first
    | (go_at_call 37; refine CO.out.mono ?_; rintro e w2 ⟨v2, rfl, ho, hb2⟩; obtain ⟨A2, c2, rfl⟩ := ho.len; have HO2 := Lib.hid (ho.sl i64Row_length); have HB2 := Lib.hid hb2; clear ho hb2)
    | (go_at_call 38; refine (CP.out _).mono ?_; rintro e w3 ⟨rfl, rfl⟩))
  clear n3 CP CO
  have HB12 := Lib.hid (below_call HB1.out HB2.out)
  have HS2 := Lib.hid (HS1.out.later HB2.out)
  have HL2 := Lib.hid (HL1.out.later HB2.out)
  obtain ⟨W, hW⟩ : ∃ W, W = w2 := ⟨_, rfl⟩
  rw [← hW] at HO2 HB2 HB12 HS2 HL2
  rw [← hW]
  clear hW
  have hkc : k ≤ capl := by omega
  have k0 : (0 : Int) ≤ (k : Int) := by omega
  have k1 : (k : Int) ≤ (l.length : Int) := by omega
  have k2 : (k : Int) ≤ (capl : Int) := by omega
  have k3 : (l.length : Int) ≤ (capl : Int) := by omega
  have e1 : (l.take k).length = k := by rw [List.length_take]; omega
  have e2 : (l.drop k).length = l.length - k := by rw [List.length_drop]
  go_cut [14] (fun v wx => ∃ A9 n9 c9, v = .slice A9 n9 c9 ∧ Own 4 entRow 44 W.heap.size wx (.slice A9 n9 c9) (l.take k ++ two8 Ab cb body ++ l.drop k) ∧ Below W.heap.size W wx)
  case first =>
    cases Al with
    | none =>
      have hc0 := HNN.out rfl
      have hl0 : l = [] := List.eq_nil_of_length_eq_zero (by omega)
      subst hl0 hc0
      have hk0 : k = 0 := by simpa using hkl
      subst hk0
      have HTK : Hid (Sl 4 entRow W.heap.size W (.slice none 0 0) (([] : List Ent).take 0)) := Sl.nil_ _ _ _ _
      have HDK : Hid (Sl 4 entRow W.heap.size W (.slice none 0 0) (([] : List Ent).drop 0)) := Sl.nil_ _ _ _ _
      have O1 : Own 4 entRow 44 W.heap.size (W.alloc (.cells #[] 44)) (.slice (some ⟨W.heap.size, 0, none⟩) 0 0) [] := Own.made 4 entRow 44 W
      have O2 : Own 4 entRow 44 W.heap.size ((W.alloc (.cells #[.int .i64 7, .int .i64 0, .int .i64 2, .slice Ab body.length cb, .int .i64 8, .int .i64 0, .int .i64 1, .slice none 0 0] 44)).alloc (.cells #[] 44)) (.slice (some ⟨W.heap.size + 1, 0, none⟩) 0 0) [] := by
        have := (Own.made 4 entRow 44 (W.alloc (.cells #[.int .i64 7, .int .i64 0, .int .i64 2, .slice Ab body.length cb, .int .i64 8, .int .i64 0, .int .i64 1, .slice none 0 0] 44))).less (base' := W.heap.size) (by simp)
        simpa using this
      have B1 : Box ((W.alloc (.cells #[.int .i64 7, .int .i64 0, .int .i64 2, .slice Ab body.length cb, .int .i64 8, .int .i64 0, .int .i64 1, .slice none 0 0] 44)).alloc (.cells #[] 44)) W.heap.size #[.int .i64 7, .int .i64 0, .int .i64 2, .slice Ab body.length cb, .int .i64 8, .int .i64 0, .int .i64 1, .slice none 0 0] 44 := (Box.new W _ _).alloc _
      have B2 : Box ((W.alloc (.cells #[] 44)).alloc (.cells #[.int .i64 7, .int .i64 0, .int .i64 2, .slice Ab body.length cb, .int .i64 8, .int .i64 0, .int .i64 1, .slice none 0 0] 44)) (W.heap.size + 1) #[.int .i64 7, .int .i64 0, .int .i64 2, .slice Ab body.length cb, .int .i64 8, .int .i64 0, .int .i64 1, .slice none 0 0] 44 := by
        have := Box.new (W.alloc (.cells #[] 44)) #[.int .i64 7, .int .i64 0, .int .i64 2, .slice Ab body.length cb, .int .i64 8, .int .i64 0, .int .i64 1, .slice none 0 0] 44
        simpa using this
      go_region_held3 (fun w' => Below W.heap.size W w')
        (first | (((repeat (first | (refine Below.drew ?_) | (refine Below.alloc ?_ (by first | omega | (simp; done) | (simp; omega)) _))); first | exact Below.refl _ _ | exact PA | exact PB | exact PC)))
        (first
            | (refine (step_append_all rfl (.tmp 48) (.tmp 51) _ rfl W.heap.size 44 _ 4 48 Tryd.underlying31 entInfoG rfl (Nat.succ_pos 3) entRow entRow_length entRow_one [] _ rfl ?_ ((([] : List Ent).take 0)) W.heap.size _ ?_ rfl ?_ ?_ ?_ ?_)); (focus (first | exact O1.drew | exact O2.drew | exact (O1.alloc _).drew)); (focus (refine Sl.below HTK.out ?_; ((repeat (first | (refine Below.drew ?_) | (refine Below.alloc ?_ (by first | omega | (simp; done) | (simp; omega)) _))); first | exact Below.refl _ _ | exact PA | exact PB | exact PC))); (focus (first | (simp; done) | (simp; omega) | omega)); (focus omega); (focus (first | (simp; done) | (simp; omega) | omega)); intro v' w' h1 h2 h3 h4 h5; have PA : Below W.heap.size W w' := (Below.trans (by (repeat (first | (refine Below.drew ?_) | (refine Below.alloc ?_ (by first | omega | (simp; done) | (simp; omega)) _))); exact Below.refl _ _) h2); have sA := PA.size; (try have bp : Box w' W.heap.size #[.int .i64 7, .int .i64 0, .int .i64 2, .slice Ab body.length cb, .int .i64 8, .int .i64 0, .int .i64 1, .slice none 0 0] 44 := (h4 W.heap.size (by simp <;> omega) (by simp [Act.eval, Value.ownBlock])).trans B1); (try have bp : Box w' (W.heap.size + 1) #[.int .i64 7, .int .i64 0, .int .i64 2, .slice Ab body.length cb, .int .i64 8, .int .i64 0, .int .i64 1, .slice none 0 0] 44 := (h4 (W.heap.size + 1) (by simp <;> omega) (by simp [Act.eval, Value.ownBlock])).trans B2)
            | (refine (step_append_any rfl (.tmp 52) (.tmp 56) _ rfl W.heap.size 44 _ 4 48 Tryd.underlying31 entInfoG rfl (Nat.succ_pos 3) entRow entRow_length entRow_one ((([] : List Ent).take 0)) _ rfl ?_ (two8 Ab cb body) _ ?_ rfl ?_ ?_ ?_ ?_)); (focus (first | exact h1 | exact h1.alloc _)); (focus (first | exact ⟨_, Box.sl entRow_length (two8 Ab cb body) bp rfl (by unfold maxLen two8; simp)⟩ | exact ⟨_, Box.sl entRow_length (two8 Ab cb body) (Box.new _ _ _) rfl (by unfold maxLen two8; simp)⟩)); (focus (first | (simp [two8]; done) | (simp [two8]; omega) | omega)); (focus omega); (focus (first | (simp; done) | (simp; omega) | omega)); intro v2 w2 p1 p2 p3 p4 p5; have PB : Below W.heap.size W w2 := (Below.trans (by ((repeat (first | (refine Below.drew ?_) | (refine Below.alloc ?_ (by first | omega | (simp; done) | (simp; omega)) _))); first | exact Below.refl _ _ | exact PA)) p2); have sB := PB.size
            | (refine (step_append_any rfl (.tmp 57) (.tmp 60) _ rfl W.heap.size 44 _ 4 48 Tryd.underlying31 entInfoG rfl (Nat.succ_pos 3) entRow entRow_length entRow_one ((([] : List Ent).take 0) ++ two8 Ab cb body) _ rfl ?_ ((([] : List Ent).drop 0)) _ ?_ rfl ?_ ?_ ?_ ?_)); (focus (first | exact p1 | exact p1.alloc _)); (focus (refine ⟨W.heap.size, Sl.below HDK.out ?_⟩; ((repeat (first | (refine Below.drew ?_) | (refine Below.alloc ?_ (by first | omega | (simp; done) | (simp; omega)) _))); first | exact Below.refl _ _ | exact PA | exact PB | exact PC))); (focus (first | (simp [two8]; done) | (simp [two8]; omega) | omega)); (focus omega); (focus (first | (simp; done) | (simp; omega) | omega)); intro v3 w3 q1 q2 q3 q4 q5; have PC : Below W.heap.size W w3 := PB.trans q2; have sC := PC.size; obtain ⟨A9, n9, c9, rfl⟩ := q1.form)
      all_goals (go_wp2_with fail; go_meet)
      all_goals exact ⟨A9, n9, c9, rfl, q1, PC⟩
    | some ad =>
      have HTK := Lib.hid (HL2.out.take_ hkl)
      have HDK := Lib.hid (HL2.out.drop2 hkl)
      have O1 : Own 4 entRow 44 W.heap.size (W.alloc (.cells #[] 44)) (.slice (some ⟨W.heap.size, 0, none⟩) 0 0) [] := Own.made 4 entRow 44 W
      have O2 : Own 4 entRow 44 W.heap.size ((W.alloc (.cells #[.int .i64 7, .int .i64 0, .int .i64 2, .slice Ab body.length cb, .int .i64 8, .int .i64 0, .int .i64 1, .slice none 0 0] 44)).alloc (.cells #[] 44)) (.slice (some ⟨W.heap.size + 1, 0, none⟩) 0 0) [] := by
        have := (Own.made 4 entRow 44 (W.alloc (.cells #[.int .i64 7, .int .i64 0, .int .i64 2, .slice Ab body.length cb, .int .i64 8, .int .i64 0, .int .i64 1, .slice none 0 0] 44))).less (base' := W.heap.size) (by simp)
        simpa using this
      have B1 : Box ((W.alloc (.cells #[.int .i64 7, .int .i64 0, .int .i64 2, .slice Ab body.length cb, .int .i64 8, .int .i64 0, .int .i64 1, .slice none 0 0] 44)).alloc (.cells #[] 44)) W.heap.size #[.int .i64 7, .int .i64 0, .int .i64 2, .slice Ab body.length cb, .int .i64 8, .int .i64 0, .int .i64 1, .slice none 0 0] 44 := (Box.new W _ _).alloc _
      have B2 : Box ((W.alloc (.cells #[] 44)).alloc (.cells #[.int .i64 7, .int .i64 0, .int .i64 2, .slice Ab body.length cb, .int .i64 8, .int .i64 0, .int .i64 1, .slice none 0 0] 44)) (W.heap.size + 1) #[.int .i64 7, .int .i64 0, .int .i64 2, .slice Ab body.length cb, .int .i64 8, .int .i64 0, .int .i64 1, .slice none 0 0] 44 := by
        have := Box.new (W.alloc (.cells #[] 44)) #[.int .i64 7, .int .i64 0, .int .i64 2, .slice Ab body.length cb, .int .i64 8, .int .i64 0, .int .i64 1, .slice none 0 0] 44
        simpa using this
      go_region_held3 (fun w' => Below W.heap.size W w')
        (first | (((repeat (first | (refine Below.drew ?_) | (refine Below.alloc ?_ (by first | omega | (simp; done) | (simp; omega)) _))); first | exact Below.refl _ _ | exact PA | exact PB | exact PC)))
        (first
            | (refine (step_append_all rfl (.tmp 48) (.tmp 51) _ rfl W.heap.size 44 _ 4 48 Tryd.underlying31 entInfoG rfl (Nat.succ_pos 3) entRow entRow_length entRow_one [] _ rfl ?_ (l.take k) W.heap.size _ ?_ rfl ?_ ?_ ?_ ?_)); (focus (first | exact O1.drew | exact O2.drew | exact (O1.alloc _).drew)); (focus (refine Sl.below HTK.out ?_; ((repeat (first | (refine Below.drew ?_) | (refine Below.alloc ?_ (by first | omega | (simp; done) | (simp; omega)) _))); first | exact Below.refl _ _ | exact PA | exact PB | exact PC))); (focus (first | (simp; done) | (simp; omega) | omega)); (focus omega); (focus (first | (simp; done) | (simp; omega) | omega)); intro v' w' h1 h2 h3 h4 h5; have PA : Below W.heap.size W w' := (Below.trans (by (repeat (first | (refine Below.drew ?_) | (refine Below.alloc ?_ (by first | omega | (simp; done) | (simp; omega)) _))); exact Below.refl _ _) h2); have sA := PA.size; (try have bp : Box w' W.heap.size #[.int .i64 7, .int .i64 0, .int .i64 2, .slice Ab body.length cb, .int .i64 8, .int .i64 0, .int .i64 1, .slice none 0 0] 44 := (h4 W.heap.size (by simp <;> omega) (by simp [Act.eval, Value.ownBlock])).trans B1); (try have bp : Box w' (W.heap.size + 1) #[.int .i64 7, .int .i64 0, .int .i64 2, .slice Ab body.length cb, .int .i64 8, .int .i64 0, .int .i64 1, .slice none 0 0] 44 := (h4 (W.heap.size + 1) (by simp <;> omega) (by simp [Act.eval, Value.ownBlock])).trans B2)
            | (refine (step_append_any rfl (.tmp 52) (.tmp 56) _ rfl W.heap.size 44 _ 4 48 Tryd.underlying31 entInfoG rfl (Nat.succ_pos 3) entRow entRow_length entRow_one (l.take k) _ rfl ?_ (two8 Ab cb body) _ ?_ rfl ?_ ?_ ?_ ?_)); (focus (first | exact h1 | exact h1.alloc _)); (focus (first | exact ⟨_, Box.sl entRow_length (two8 Ab cb body) bp rfl (by unfold maxLen two8; simp)⟩ | exact ⟨_, Box.sl entRow_length (two8 Ab cb body) (Box.new _ _ _) rfl (by unfold maxLen two8; simp)⟩)); (focus (first | (simp [two8]; done) | (simp [two8]; omega) | omega)); (focus omega); (focus (first | (simp; done) | (simp; omega) | omega)); intro v2 w2 p1 p2 p3 p4 p5; have PB : Below W.heap.size W w2 := (Below.trans (by ((repeat (first | (refine Below.drew ?_) | (refine Below.alloc ?_ (by first | omega | (simp; done) | (simp; omega)) _))); first | exact Below.refl _ _ | exact PA)) p2); have sB := PB.size
            | (refine (step_append_any rfl (.tmp 57) (.tmp 60) _ rfl W.heap.size 44 _ 4 48 Tryd.underlying31 entInfoG rfl (Nat.succ_pos 3) entRow entRow_length entRow_one (l.take k ++ two8 Ab cb body) _ rfl ?_ (l.drop k) _ ?_ rfl ?_ ?_ ?_ ?_)); (focus (first | exact p1 | exact p1.alloc _)); (focus (refine ⟨W.heap.size, Sl.below HDK.out ?_⟩; ((repeat (first | (refine Below.drew ?_) | (refine Below.alloc ?_ (by first | omega | (simp; done) | (simp; omega)) _))); first | exact Below.refl _ _ | exact PA | exact PB | exact PC))); (focus (first | (simp [two8]; done) | (simp [two8]; omega) | omega)); (focus omega); (focus (first | (simp; done) | (simp; omega) | omega)); intro v3 w3 q1 q2 q3 q4 q5; have PC : Below W.heap.size W w3 := PB.trans q2; have sC := PC.size; obtain ⟨A9, n9, c9, rfl⟩ := q1.form)
      all_goals (obtain ⟨Ad, hAd⟩ : ∃ Ad, Ad = (if capl = k then some ad else some (ad.add (k * 4))) := ⟨_, rfl⟩; rw [← hAd]; clear hAd; go_wp2_with fail; go_meet)
      all_goals exact ⟨A9, n9, c9, rfl, q1, PC⟩
  case rest =>
  obtain ⟨A9, n9, c9, rfl, ho, hB⟩ := hcut
  obtain ⟨w7, hw7⟩ : ∃ z, z = wc := ⟨_, rfl⟩
  rw [← hw7] at ho hB
  rw [← hw7]
  clear hw7
  obtain ⟨more, hmore⟩ : ∃ m, l.take k ++ two8 Ab cb body ++ l.drop k = m := ⟨_, rfl⟩
  rw [hmore] at ho
  have hml : more.length = l.length + 2 := by rw [← hmore]; simp [two8]; omega
  have hn9 : n9 = more.length := by
    obtain ⟨A6, c6, h6, -⟩ := ho.sl entRow_length
    simp only [Value.slice.injEq] at h6
    exact h6.2.1
  subst hn9
  have HMOR := Lib.hid hmore
  have HO9 := Lib.hid ho
  have HB7 := Lib.hid hB
  have HB17 := Lib.hid (below_call HB12.out hB)
  have HS7 := Lib.hid (HS2.out.later hB)
  have HO7 := Lib.hid (HO2.out.later hB)
  have HI7 : Hid (∀ x ∈ more, EntIn w7.heap.size w7 x) := fun x hx => by
    rw [← hmore] at hx
    rcases List.mem_append.1 hx with hx | hx
    · rcases List.mem_append.1 hx with hx | hx
      · exact entIn_later (HIN.out x (List.mem_of_mem_take hx)).1 HB17.out
      · simp only [two8, List.mem_cons, List.not_mem_nil, or_false] at hx
        rcases hx with rfl | rfl
        · exact ⟨HBO.out.later HB17.out, HBB.out⟩
        · exact ⟨Sl.nil_ _ _ _ _, by simp⟩
    · exact entIn_later (HIN.out x (List.mem_of_mem_drop hx)).1 HB17.out
  have HGV := Lib.hid (show grpV base more = grpV base l by rw [← hmore, grp_more (two8_no Ab cb body), List.take_append_drop])
  have CO := Lib.hid (groupOf base more _ _ w7 HS7.out (HO9.out.sl entRow_length) HI7.out (by omega) (by omega))
  rw [HGV.out, HGM.out, HGA.out] at CO
  have hm1000 : more.length ≤ 1002 := by omega
  clear ho hB hmore hml e1 e2
  go_upto_region 9 with (go_at_call 37; refine CO.out.mono ?_; rintro e w8 ⟨v8, rfl, ho, hb8⟩; obtain ⟨A8, c8, rfl⟩ := ho.len; have HO8 := Lib.hid (ho.sl i64Row_length); have HB8 := Lib.hid hb8; clear ho hb8)
  have HB18 := Lib.hid (below_call HB17.out HB8.out)
  have HS8 := Lib.hid (HS7.out.later HB8.out)
  have HM8 := Lib.hid (HO7.out.later HB8.out)
  have C1 := Lib.hid (sameAny gm gm _ _ w8 HM8.out HO8.out)
  rw [show decide (gm = gm) = true from decide_eq_true rfl] at C1
  have C2 : Hid (∀ w9, Below w8.heap.size w8 w9 → Calls Tryd.prog 35 #[.slice A2 gm.length c2, .slice A base.length cap] w9 fun e w' => e = .returned (.bool (decide (gm = base))) ∧ Below w9.heap.size w9 w') := fun w9 p => sameAny gm base _ _ w9 (HM8.out.later p) (HS8.out.later p)
  have C3 : Hid (∀ w9, Below w8.heap.size w8 w9 → Calls Tryd.prog 30 #[.slice A base.length cap] w9 fun e w' => e = .returned (.bool (memRight base)) ∧ w9 = w') := fun w9 p => entryRight base _ w9 (HS8.out.later p)
  have C4 : Hid (∀ w9, Below w8.heap.size w8 w9 → Calls Tryd.prog 30 #[.slice A2 gm.length c2] w9 fun e w' => e = .returned (.bool (memRight gm)) ∧ w9 = w') := fun w9 p => entryRight gm _ w9 (HM8.out.later p)
  have HRR : Hid (memRight base = true → memRight gm = true) := fun h => by rw [← HGM.out]; exact grp_right h
  have HE0 : Hid (l.length = 0 → decide (gm = base) = true) := fun h => by
    have hl0 : l = [] := List.eq_nil_of_length_eq_zero h
    rw [← HGM.out, hl0]; exact decide_eq_true rfl
  obtain ⟨b1, hb1⟩ : ∃ b, decide (gm = base) = b := ⟨_, rfl⟩
  obtain ⟨rb, hrb⟩ : ∃ b, memRight base = b := ⟨_, rfl⟩
  obtain ⟨rm, hrm⟩ : ∃ b, memRight gm = b := ⟨_, rfl⟩
  rw [hb1] at C2 HE0
  rw [hrb] at C3 HRR
  rw [hrm] at C4 HRR
  have CB : Hid (∀ w9, Below w8.heap.size w8 w9 → Calls Tryd.prog 39 #[.slice Am members.length cm] w9 fun e w' => BytPost members w9 e w') := fun w9 p => entBytes members _ w9 (HM.out.later (below_call HB18.out p))
  clear hb1 hrb hrm
  go_cut [100] (fun v wx => v = .bool false ∧ Below w8.heap.size w8 wx)
  case first =>
    have g1 : (ga != ga) = false := by simp
    by_cases g0 : ga = 0
    · have g2 : (ga == 0) = true := by simpa using g0
      have G0 := Lib.hid g0
      clear g0
      cases b1 with
      | true =>
        cases rb with
        | false =>
          go_wp2_with (first
            | (go_at_call 35; with_reducible refine C1.out.mono ?_; rintro e w9 ⟨rfl, hb⟩; have H9 := Lib.hid hb; clear hb)
            | (go_at_call 35; with_reducible refine (C2.out w9 H9.out).mono ?_; rintro e w10 ⟨rfl, hb⟩; have H10 := Lib.hid (below_call H9.out hb); clear hb)
            | (go_at_call 30; with_reducible refine (C3.out w10 H10.out).mono ?_; rintro e w11 ⟨rfl, rfl⟩))
          go_meet
          exact ⟨rfl, H10.out⟩
        | true =>
          have hrm := HRR.out rfl
          subst hrm
          go_wp2_with (first
            | (go_at_call 35; with_reducible refine C1.out.mono ?_; rintro e w9 ⟨rfl, hb⟩; have H9 := Lib.hid hb; clear hb)
            | (go_at_call 35; with_reducible refine (C2.out w9 H9.out).mono ?_; rintro e w10 ⟨rfl, hb⟩; have H10 := Lib.hid (below_call H9.out hb); clear hb)
            | (go_at_call 30; with_reducible refine (C3.out w10 H10.out).mono ?_; rintro e w11 ⟨rfl, rfl⟩)
            | (go_at_call 30; with_reducible refine (C4.out w10 H10.out).mono ?_; rintro e w11 ⟨rfl, rfl⟩))
          go_meet
          exact ⟨rfl, H10.out⟩
      | false =>
        have h0 : ¬ l.length = 0 := fun h => by have := HE0.out h; simp at this
        have g3 : ((l.length : Int) == 0) = false := by simpa using (show ¬ (l.length : Int) = 0 by omega)
        cases rb with
        | false =>
          go_wp2_with (first
            | (go_at_call 35; with_reducible refine C1.out.mono ?_; rintro e w9 ⟨rfl, hb⟩; have H9 := Lib.hid hb; clear hb)
            | (go_at_call 35; with_reducible refine (C2.out w9 H9.out).mono ?_; rintro e w10 ⟨rfl, hb⟩; have H10 := Lib.hid (below_call H9.out hb); clear hb)
            | (go_at_call 30; with_reducible refine (C3.out w10 H10.out).mono ?_; rintro e w11 ⟨rfl, rfl⟩))
          go_meet
          exact ⟨rfl, H10.out⟩
        | true =>
          have hrm := HRR.out rfl
          subst hrm
          go_wp2_with (first
            | (go_at_call 35; with_reducible refine C1.out.mono ?_; rintro e w9 ⟨rfl, hb⟩; have H9 := Lib.hid hb; clear hb)
            | (go_at_call 35; with_reducible refine (C2.out w9 H9.out).mono ?_; rintro e w10 ⟨rfl, hb⟩; have H10 := Lib.hid (below_call H9.out hb); clear hb)
            | (go_at_call 30; with_reducible refine (C3.out w10 H10.out).mono ?_; rintro e w11 ⟨rfl, rfl⟩)
            | (go_at_call 30; with_reducible refine (C4.out w10 H10.out).mono ?_; rintro e w11 ⟨rfl, rfl⟩))
          go_meet
          exact ⟨rfl, H10.out⟩
    · have g2 : (ga == 0) = false := by simpa using g0
      have G0 := Lib.hid g0
      clear g0
      cases rb with
      | false =>
        go_wp2_with (first
          | (go_at_call 35; with_reducible refine C1.out.mono ?_; rintro e w9 ⟨rfl, hb⟩; have H9 := Lib.hid hb; clear hb)
          | (go_at_call 35; with_reducible refine (C2.out w9 H9.out).mono ?_; rintro e w10 ⟨rfl, hb⟩; have H10 := Lib.hid (below_call H9.out hb); clear hb)
          | (go_at_call 30; with_reducible refine (C3.out w9 H9.out).mono ?_; rintro e w11 ⟨rfl, rfl⟩))
        go_meet
        exact ⟨rfl, H9.out⟩
      | true =>
        have hrm := HRR.out rfl
        subst hrm
        go_wp2_with (first
          | (go_at_call 35; with_reducible refine C1.out.mono ?_; rintro e w9 ⟨rfl, hb⟩; have H9 := Lib.hid hb; clear hb)
          | (go_at_call 35; with_reducible refine (C2.out w9 H9.out).mono ?_; rintro e w10 ⟨rfl, hb⟩; have H10 := Lib.hid (below_call H9.out hb); clear hb)
          | (go_at_call 30; with_reducible refine (C3.out w9 H9.out).mono ?_; rintro e w11 ⟨rfl, rfl⟩)
          | (go_at_call 30; with_reducible refine (C4.out w9 H9.out).mono ?_; rintro e w11 ⟨rfl, rfl⟩))
        go_meet
        exact ⟨rfl, H9.out⟩
  case rest =>
  obtain ⟨rfl, hB9⟩ := hcut
  obtain ⟨w9, hw9⟩ : ∃ z, z = wc := ⟨_, rfl⟩
  rw [← hw9] at hB9
  rw [← hw9]
  clear hw9
  have HB9 := Lib.hid hB9
  have HB19 := Lib.hid (below_call HB18.out hB9)
  have CB9 := Lib.hid (CB.out w9 hB9)
  have HO10 := Lib.hid ((HO9.out.later HB8.out).later hB9)
  clear hB9 C1 C2 C3 C4 CB HRR HE0 CO
  cases hmr : memRight members with
  | false =>
    have HMR := Lib.hid hmr
    clear hmr
    go_wp2_with (go_at_call 39; refine CB9.out.mono ?_; rintro e w10 ⟨v10, rfl, ho, hb10⟩; rw [HMR.out]; have HB10 := Lib.hid hb10; clear ho hb10)
    go_ret
    exact ⟨rfl, below_call HB19.out HB10.out⟩
  | true =>
    have HMR := Lib.hid hmr
    clear hmr
    go_upto_region 14 with (go_at_call 39; refine CB9.out.mono ?_; rintro e w10 ⟨v10, rfl, ho, hb10⟩; rw [HMR.out] at ho; rw [HMR.out]; rw [if_pos rfl] at ho; obtain ⟨A10, c10, rfl⟩ := ho.1.len; have HBY := Lib.hid ho.1; have HB10 := Lib.hid hb10; clear ho hb10)
    have HB110 := Lib.hid (below_call HB19.out HB10.out)
    have HO11 := Lib.hid (HO10.out.later HB10.out)
    have hzw : W.heap.size ≤ w10.heap.size := by
      have h1 := HB7.out.size
      have h2 := HB8.out.size
      have h3 := HB9.out.size
      have h4 := HB10.out.size
      omega
    have hll2 : more.length + 1 ≤ 4294967296 := by omega
    have HE99 := Lib.hid (show grpE ⟨99, 0, 3, A10, c10, members⟩ = true by
      have h7 := memRight_short HMR.out
      simp [grpE, memOk, HMR.out, h7])
    have HGL := Lib.hid (grp_last (base := base) (l := more) HE99.out)
    have HIW : Hid (∀ x ∈ more, EntIn W.heap.size W x) := fun x hx => by
      rw [← HMOR.out] at hx
      rcases List.mem_append.1 hx with hx | hx
      · rcases List.mem_append.1 hx with hx | hx
        · exact entIn_later (HIN.out x (List.mem_of_mem_take hx)).1 HB12.out
        · simp only [two8, List.mem_cons, List.not_mem_nil, or_false] at hx
          rcases hx with rfl | rfl
          · exact ⟨HBO.out.later HB12.out, HBB.out⟩
          · exact ⟨Sl.nil_ _ _ _ _, by simp⟩
      · exact entIn_later (HIN.out x (List.mem_of_mem_drop hx)).1 HB12.out
    have HW10 : Hid (Below W.heap.size W w10) := below_call (below_call (below_call HB7.out HB8.out) HB9.out) HB10.out
    have HOB : Hid (∀ x, (Value.slice A9 more.length c9).ownBlock = some x → x < w9.heap.size) := fun x hx => (HO10.out.block hx).2
    have CO2 : Hid (∀ w11 v11, Own 4 entRow 44 W.heap.size w11 v11 (more ++ [⟨99, 0, 3, A10, c10, members⟩]) → Below W.heap.size W w11 → w10.heap.size ≤ w11.heap.size → (∀ g, g < w10.heap.size → some g ≠ (Value.slice A9 more.length c9).ownBlock → w11.heap[g]? = w10.heap[g]?) → Calls Tryd.prog 37 #[.slice A base.length cap, v11] w11 fun e w' => ∃ A12 c12, e = .returned (.tuple #[.slice A12 members.length c12, .int .i64 99]) ∧ Sl 1 i64Row w'.heap.size w' (.slice A12 members.length c12) members ∧ Below w11.heap.size w11 w') := fun w11 v11 ho p hs hq => by
      have hzz := p.size
      refine (groupOf base (more ++ [⟨99, 0, 3, A10, c10, members⟩]) _ v11 w11 ((HS2.out.below p).more hzz) (ho.sl entRow_length) (fun x hx => ?_) (by omega) (by simp; omega)).mono ?_
      · rcases List.mem_append.1 hx with hx | hx
        · exact ⟨((HIW.out x hx).1.below p).more hzz, (HIW.out x hx).2⟩
        · simp only [List.mem_singleton] at hx
          subst hx
          have hst : Own 1 u8Row 5 w9.heap.size w11 (.slice A10 members.length c10) members := HBY.out.stay fun x hx => by
            have hb := HBY.out.block hx
            refine hq x hb.2 (fun e => ?_)
            have := HOB.out x e.symm
            omega
          refine ⟨hst.sl u8Row_length, fun y hy => ?_⟩
          have := (right_iff.1 HMR.out).2.1 y hy
          show 0 ≤ y ∧ y ≤ 255
          omega
      · rintro e w12 ⟨v12, he, ho12, hb12⟩
        rw [HGL.out] at he ho12
        obtain ⟨A12, c12, hv⟩ := ho12.len
        subst hv
        exact ⟨A12, c12, he, ho12.sl i64Row_length, hb12⟩
    have hww : w.heap.size ≤ W.heap.size := HB12.out.size
    go_wp2_with (first
      | (at_builtin; refine wpList_append_row _ rfl (.tmp 110) (.tmp 113) 31 rfl W.heap.size 44 _ 4 48 Tryd.underlying31 entInfoG rfl (Nat.succ_pos 3) entRow entRow_length entRow_one more _ rfl HO11.out ⟨99, 0, 3, A10, c10, members⟩ _ rfl 44 _ rfl rfl hll2 (by omega) hzw ?_; intro v11 w11 p1 p2 p3 p4 p5; have HP1 := Lib.hid p1; have HP2 := Lib.hid (HW10.out.trans p2); have HP3 := Lib.hid p3; have HP4 : Hid (∀ g, g < w10.heap.size → some g ≠ (Value.slice A9 more.length c9).ownBlock → w11.heap[g]? = w10.heap[g]?) := p4; have HPW := Lib.hid (HB12.out.trans (HP2.out.mono hww)); clear p1 p2 p3 p4 p5)
      | (go_at_call 37; refine (CO2.out w11 v11 HP1.out HP2.out HP3.out HP4.out).mono ?_; rintro e w12 ⟨A12, c12, rfl, ho12, hb12⟩; have HO12 := Lib.hid ho12; have HP12 := Lib.hid (below_call HPW.out hb12); clear ho12 hb12)
      | (go_at_call 35; refine (sameAny members members _ _ w12 HO12.out ((HM.out.below HP12.out).more HP12.out.size)).mono ?_; rintro e w13 ⟨rfl, hb13⟩; rw [show decide (members = members) = true from decide_eq_true rfl]; have HB13 := Lib.hid hb13; clear hb13))
    go_ret
    exact ⟨rfl, below_call HP12.out HB13.out⟩
end Go.Proofs.YthadfdpdillemaaDoor
