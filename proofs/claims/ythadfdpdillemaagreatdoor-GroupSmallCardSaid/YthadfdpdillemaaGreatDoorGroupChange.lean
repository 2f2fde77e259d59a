/-
  group.Change: contract.
-/
import Derived.Test.YthadfdpdillemaaGreatDoorGroup3
set_option linter.unusedVariables false
set_option linter.unusedSimpArgs false
namespace Go.Proofs.YthadfdpdillemaaGreatDoor
open Go.RowKit Go.Sort Go.Shelf

theorem whyG_t {u : Value} (h : WhyG true u) : u = .nilIface := by
  rcases h with ⟨-, h⟩ | ⟨h, -⟩
  · exact h
  · cases h
theorem whyG_f {u : Value} (h : WhyG false u) : ∃ n k : Int, (k = 1 ∨ (k == 1) = false) ∧ u = .iface 159 (.agg #[.int .i64 n, .iface 160 (.int .i64 k)]) := by
  rcases h with ⟨h, -⟩ | ⟨-, n, k, h, h2⟩
  · cases h
  · refine ⟨n, k, ?_, h2⟩
    rcases h with rfl | rfl | rfl | rfl
    · exact .inl rfl
    · exact .inr rfl
    · exact .inr rfl
    · exact .inr rfl
/-- What Change tells. -/
def ChgPost (l : List Int) (a t : Int) (w : World) (e : Ending) (w' : World) : Prop :=
  ∃ v' : Value, e = .returned (.tuple #[v', .int .i64 (if mayV l a t then 0 else 2)]) ∧ Own 1 i64Row 3 w.heap.size w' v' (if mayV l a t then madeV l a t else []) ∧ Below w.heap.size w w'
theorem chg_no {l : List Int} {a t : Int} {w w' : World} (h : mayV l a t = false) (hb : Below w.heap.size w w') : ChgPost l a t w (.returned (.tuple #[.slice none 0 0, .int .i64 2])) w' :=
  ⟨.slice none 0 0, by rw [h]; rfl, by rw [h]; exact Own.nil_ _ _ _ _ _, hb⟩
theorem chg_yes {l : List Int} {a t : Int} {w w' : World} {v : Value} (h : mayV l a t = true) (ho : Own 1 i64Row 3 w.heap.size w' v (madeV l a t)) (hb : Below w.heap.size w w') : ChgPost l a t w (.returned (.tuple #[v, .int .i64 0])) w' :=
  ⟨v, by rw [h]; rfl, by rw [h]; exact ho, hb⟩

set_option maxRecDepth 100000 in
set_option maxHeartbeats 4000000 in
theorem groupChange (l : List Int) (a t : Int) (v : Value) (w : World) (h : Sl 1 i64Row w.heap.size w v l) (hl : l.length ≤ 1000) (hG : errTypeIs w) :
    Calls Tryz.prog 50 #[v, .int .i64 a, .int .i64 t] w fun e w' => ChgPost l a t w e w' := by
  obtain ⟨A, cap, rfl, -⟩ := id h
  have HX := Lib.hid (Box.new w #[.slice A l.length cap, .int .i64 a, .int .i64 t] 156)
  have HB0 := Lib.hid (below_new w (.cells #[.slice A l.length cap, .int .i64 a, .int .i64 t] 156))
  have HS := Lib.hid (h.alloc (.cells #[.slice A l.length cap, .int .i64 a, .int .i64 t] 156))
  have HG := Lib.hid (errType_later hG (below_new w (.cells #[.slice A l.length cap, .int .i64 a, .int .i64 t] 156)))
  obtain ⟨W, hW⟩ : ∃ W, W = w.alloc (.cells #[.slice A l.length cap, .int .i64 a, .int .i64 t] 156) := ⟨_, rfl⟩
  have hz0 : w.heap.size < W.heap.size := by rw [hW]; simp
  rw [← hW] at HX HB0 HS HG
  have CM := Lib.hid (groupMay l a t _ W HS.out (by omega))
  clear h hG
  go_enter Tryz.func50, Tryz.ntmps50
  obtain ⟨g, hg⟩ : ∃ g, g = w.heap.size := ⟨_, rfl⟩
  go_upto_region 2 with fail
  rw [← hW, ← hg]
  rw [← hg] at HX HB0 hz0
  have HGW := Lib.hid hg
  clear hW hg
  obtain ⟨kx, fx, zx⟩ := HX.out.facts
  cases hm : mayV l a t with
  | true =>
    rw [hm] at CM
    have HM := Lib.hid hm
    have hne : l ≠ [] := by
      have := (may_cases hm).1
      exact (right_iff.1 this).2.2
    have CMD := Lib.hid (fun (w5 : World) (p : Below W.heap.size W w5) => groupMade l a t (.slice A l.length cap) w5 (HS.out.later p) hl hne)
    clear hm hne
    go_upto_region 3 with (go_at_call 103; refine CM.out.mono ?_; rintro e w2 ⟨u, rfl, hq, hb⟩; obtain rfl := whyG_t hq; have HB2 := Lib.hid hb; have HX2 := Lib.hid (HX.out.later hb); clear hq hb)
    clear kx fx zx
    obtain ⟨kx, fx, zx⟩ := HX2.out.facts
    go_wp2_with (first
      | (go_at_call 88; refine (GrpE.is_nil _ _).mono ?_; rintro e w4 ⟨rfl, rfl⟩)
      | (go_at_call 68; refine (GrpE.as_nil _ _).mono ?_; rintro e w5 ⟨rfl, rfl⟩; clear kx fx zx; obtain ⟨kx, fx, zx⟩ := (HX2.out.alloc (.cells #[.int .i64 0, .nilIface] 159)).facts)
      | (go_at_call 104; refine (CMD.out _ (below_call HB2.out (below_new w2 (.cells #[.int .i64 0, .nilIface] 159)))).mono ?_; rintro e w6 ⟨v', rfl, ho, hb⟩; have HO6 := Lib.hid ho; have HB6 := Lib.hid (below_call (below_call HB2.out (below_new w2 (.cells #[.int .i64 0, .nilIface] 159))) hb); clear ho hb))
    go_ret2
    have hz2 := HB2.out.size
    exact chg_yes HM.out (HO6.out.less (by simp; have := HGW.out; omega)) (by rw [← HGW.out]; exact HB0.out.trans (HB6.out.mono (by omega)))
  | false =>
    rw [hm] at CM
    have HM := Lib.hid hm
    clear hm
    go_upto_region 3 with (go_at_call 103; refine CM.out.mono ?_; rintro e w2 ⟨u, rfl, hq, hb⟩; obtain ⟨n, k, hk, rfl⟩ := whyG_f hq; have HB2 := Lib.hid hb; have HX2 := Lib.hid (HX.out.later hb); have HG2 := Lib.hid (errType_later HG.out hb); clear hq hb)
    clear kx fx zx
    have HBr := Lib.hid (below_new w2 (.cells #[.int .i64 0, .nilIface] 159))
    have HXr := Lib.hid (Box.new w2 #[.int .i64 0, .nilIface] 159)
    rcases hk with rfl | hk
    · go_wp2_with (go_at_call 88; refine (GrpE.is_wrap _ _ _ _).mono ?_; rintro e w4 ⟨rfl, hb4⟩; rw [show ((1 : Int) == 1) = true from rfl]; have HB4 := Lib.hid (below_call (below_call HB2.out HBr.out) hb4); clear hb4)
      go_ret2
      exact chg_no HM.out (by rw [← HGW.out]; exact HB0.out.trans (HB4.out.mono (by omega)))
    · have HK := Lib.hid hk
      clear hk
      go_wp2_with (first
        | (go_at_call 88; refine (GrpE.is_wrap _ _ _ _).mono ?_; rintro e w4 ⟨rfl, hb4⟩; rw [HK.out]; have HB4 := Lib.hid (below_call (below_call HB2.out HBr.out) hb4); have HX4 := Lib.hid (HXr.out.later hb4); have HG4 := Lib.hid (errType_later HG2.out (below_call HBr.out hb4)); clear hb4)
        | (go_at_call 68; refine (GrpE.as_direct w2.heap.size _ _ _ _ w4 HG4.out HX4.out).mono ?_; rintro e w5 ⟨rfl, hx5, hbut5⟩))
      go_ret2
      exact chg_no HM.out (by rw [← HGW.out]; exact HB0.out.trans ((HB4.out.trans (hbut5.below (by have := HB2.out.size; omega) (by have := HB4.out.size; omega))).mono (by omega)))
end Go.Proofs.YthadfdpdillemaaGreatDoor
