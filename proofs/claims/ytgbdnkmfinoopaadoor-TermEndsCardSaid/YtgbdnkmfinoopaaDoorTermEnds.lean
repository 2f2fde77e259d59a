/-
  TermEnds (closed): four loops around TermTells: true. Condition: errors.errorType holds its value.
-/
import Derived.Test.YtgbdnkmfinoopaaDoorTermTellsProof
import Derived.Deep.RegionHeld3
set_option linter.unusedVariables false
set_option linter.unusedSimpArgs false
namespace Go.Proofs.YtgbdnkmfinoopaaDoor
open Go.RowKit

/-- The tables, wherever they lie: each place holds a number. -/
structure Tabs (n f e : Nat) (w : World) : Prop where
  nums : ∀ k : Nat, k < 7 → ∃ x : Int, w.cell? ⟨n, k, none⟩ = some (.int .i64 x)
  froms : ∀ k : Nat, k < 6 → ∃ x : Int, w.cell? ⟨f, k, none⟩ = some (.int .i64 x)
  ends : ∀ k : Nat, k < 12 → ∃ x : Int, w.cell? ⟨e, k, none⟩ = some (.int .i64 x)
theorem Tabs.later {n f e : Nat} {w w' : World} (h : Tabs n f e w) (hb : Below w.heap.size w w') : Tabs n f e w' :=
  ⟨fun k hk => let ⟨x, hx⟩ := h.nums k hk; ⟨x, cell_later hb hx⟩, fun k hk => let ⟨x, hx⟩ := h.froms k hk; ⟨x, cell_later hb hx⟩, fun k hk => let ⟨x, hx⟩ := h.ends k hk; ⟨x, cell_later hb hx⟩⟩
theorem tabs_new (w : World) (t1 t2 t3 : TypeId) : Tabs w.heap.size (w.heap.size + 1) (w.heap.size + 1 + 1)
    (((w.alloc (.cells #[.int .i64 (-1), .int .i64 0, .int .i64 1, .int .i64 2, .int .i64 1099511627775, .int .i64 1099511627776, .int .i64 1099511627777] t1)).alloc (.cells #[.int .i64 (-1), .int .i64 0, .int .i64 1, .int .i64 2, .int .i64 7, .int .i64 8] t2)).alloc (.cells #[.int .i64 0, .int .i64 0, .int .i64 0, .int .i64 3, .int .i64 2, .int .i64 0, .int .i64 4, .int .i64 2, .int .i64 0, .int .i64 1, .int .i64 3, .int .i64 0] t3)) := by
  have p1 := ((Box.new w #[.int .i64 (-1), .int .i64 0, .int .i64 1, .int .i64 2, .int .i64 1099511627775, .int .i64 1099511627776, .int .i64 1099511627777] t1).alloc (.cells #[.int .i64 (-1), .int .i64 0, .int .i64 1, .int .i64 2, .int .i64 7, .int .i64 8] t2)).alloc (.cells #[.int .i64 0, .int .i64 0, .int .i64 0, .int .i64 3, .int .i64 2, .int .i64 0, .int .i64 4, .int .i64 2, .int .i64 0, .int .i64 1, .int .i64 3, .int .i64 0] t3)
  have p2 := (Box.new (w.alloc (.cells #[.int .i64 (-1), .int .i64 0, .int .i64 1, .int .i64 2, .int .i64 1099511627775, .int .i64 1099511627776, .int .i64 1099511627777] t1)) #[.int .i64 (-1), .int .i64 0, .int .i64 1, .int .i64 2, .int .i64 7, .int .i64 8] t2).alloc (.cells #[.int .i64 0, .int .i64 0, .int .i64 0, .int .i64 3, .int .i64 2, .int .i64 0, .int .i64 4, .int .i64 2, .int .i64 0, .int .i64 1, .int .i64 3, .int .i64 0] t3)
  have p3 := Box.new ((w.alloc (.cells #[.int .i64 (-1), .int .i64 0, .int .i64 1, .int .i64 2, .int .i64 1099511627775, .int .i64 1099511627776, .int .i64 1099511627777] t1)).alloc (.cells #[.int .i64 (-1), .int .i64 0, .int .i64 1, .int .i64 2, .int .i64 7, .int .i64 8] t2)) #[.int .i64 0, .int .i64 0, .int .i64 0, .int .i64 3, .int .i64 2, .int .i64 0, .int .i64 4, .int .i64 2, .int .i64 0, .int .i64 1, .int .i64 3, .int .i64 0] t3
  obtain ⟨k1, -, -⟩ := p1.facts
  obtain ⟨k2, -, -⟩ := p2.facts
  obtain ⟨k3, -, -⟩ := p3.facts
  simp only [World.size_alloc] at k2 k3
  refine ⟨fun k hk => ?_, fun k hk => ?_, fun k hk => ?_⟩
  · rw [k1 k]
    rcases k with _ | _ | _ | _ | _ | _ | _ | k <;> first | exact ⟨_, rfl⟩ | omega
  · rw [k2 k]
    rcases k with _ | _ | _ | _ | _ | _ | k <;> first | exact ⟨_, rfl⟩ | omega
  · rw [k3 k]
    rcases k with _ | _ | _ | _ | _ | _ | _ | _ | _ | _ | _ | _ | k <;> first | exact ⟨_, rfl⟩ | omega

theorem s3_later {W w w' : World} {a1 a2 a3 : Addr} {v1 v2 v3 : Value} (h : w.cell? a1 = some v1 ∧ w.cell? a2 = some v2 ∧ w.cell? a3 = some v3 ∧ Below W.heap.size W w) (hb : Below w.heap.size w w') :
    w'.cell? a1 = some v1 ∧ w'.cell? a2 = some v2 ∧ w'.cell? a3 = some v3 ∧ Below W.heap.size W w' :=
  ⟨cell_later hb h.1, cell_later hb h.2.1, cell_later hb h.2.2.1, below_call h.2.2.2 hb⟩
theorem s3_below {W w : World} {a1 a2 a3 : Addr} {v1 v2 v3 : Value} (h : w.cell? a1 = some v1 ∧ w.cell? a2 = some v2 ∧ w.cell? a3 = some v3 ∧ Below W.heap.size W w) : Below W.heap.size W w := h.2.2.2

set_option maxRecDepth 100000 in
set_option maxHeartbeats 4000000 in
theorem ends_walk (w : World) (hG : errTypeIs w) :
    Calls Tryd.prog 5 #[] w fun e w' => e = .returned (.bool true) ∧ Below w.heap.size w w' := by
  have HG := Lib.hid hG
  clear hG
  go_enter Tryd.func5, Tryd.ntmps5
  go_wp2_with fail
  have T0 := tabs_new w 3 3 26
  have P0 : Below w.heap.size w (((w.alloc (.cells #[.int .i64 (-1), .int .i64 0, .int .i64 1, .int .i64 2, .int .i64 1099511627775, .int .i64 1099511627776, .int .i64 1099511627777] 3)).alloc (.cells #[.int .i64 (-1), .int .i64 0, .int .i64 1, .int .i64 2, .int .i64 7, .int .i64 8] 3)).alloc (.cells #[.int .i64 0, .int .i64 0, .int .i64 0, .int .i64 3, .int .i64 2, .int .i64 0, .int .i64 4, .int .i64 2, .int .i64 0, .int .i64 1, .int .i64 3, .int .i64 0] 26)) := below_call (below_call (below_new _ _) (below_new _ _)) (below_new _ _)
  obtain ⟨W0, hW0⟩ : ∃ W0 : World, W0 = (((w.alloc (.cells #[.int .i64 (-1), .int .i64 0, .int .i64 1, .int .i64 2, .int .i64 1099511627775, .int .i64 1099511627776, .int .i64 1099511627777] 3)).alloc (.cells #[.int .i64 (-1), .int .i64 0, .int .i64 1, .int .i64 2, .int .i64 7, .int .i64 8] 3)).alloc (.cells #[.int .i64 0, .int .i64 0, .int .i64 0, .int .i64 3, .int .i64 2, .int .i64 0, .int .i64 4, .int .i64 2, .int .i64 0, .int .i64 1, .int .i64 3, .int .i64 0] 26)) := ⟨_, rfl⟩
  rw [← hW0] at T0 P0
  rw [← hW0]
  clear hW0
  go_loopw [4, 5, 6, 7, 8] (fun i _ _ _ _ wr => ∃ k : Nat, k ≤ 7 ∧ i = .int .i64 k ∧ Below W0.heap.size W0 wr) (fun i _ _ _ _ _ => 7 - (intOf i).toNat)
  case atStart => exact ⟨0, by omega, rfl, Below.refl _ _⟩
  case round =>
    obtain ⟨k, hk, rfl, hB⟩ := hrel
    by_cases hlt : k < 7
    · obtain ⟨n1, m1⟩ : (0 : Int) ≤ (k : Int) ∧ (k : Int) < 7 := by omega
      have dk1 : decide ((k : Int) < 7) = true := by simp; omega
      go_wp2_with fail
      obtain ⟨w1, hw1⟩ : ∃ w1 : World, w1 = wr := ⟨_, rfl⟩
      subst hw1
      go_loopw [5, 6, 7, 8] (fun i _ _ _ wr2 => ∃ k2 : Nat, k2 ≤ 7 ∧ i = .int .i64 k2 ∧ Below W0.heap.size W0 wr2) (fun i _ _ _ _ => 7 - (intOf i).toNat)
      case atStart => exact ⟨0, by omega, rfl, hB⟩
      case round =>
        obtain ⟨k2, hk2, rfl, hB2⟩ := hrel
        by_cases hlt2 : k2 < 7
        · obtain ⟨n2, m2⟩ : (0 : Int) ≤ (k2 : Int) ∧ (k2 : Int) < 7 := by omega
          have dk2 : decide ((k2 : Int) < 7) = true := by simp; omega
          go_wp2_with fail
          obtain ⟨w2, hw2⟩ : ∃ w2 : World, w2 = wr := ⟨_, rfl⟩
          subst hw2
          go_loopw [6, 7, 8] (fun i _ _ wr3 => ∃ k3 : Nat, k3 ≤ 6 ∧ i = .int .i64 k3 ∧ Below W0.heap.size W0 wr3) (fun i _ _ _ => 6 - (intOf i).toNat)
          case atStart => exact ⟨0, by omega, rfl, hB2⟩
          case round =>
            obtain ⟨k3, hk3, rfl, hB3⟩ := hrel
            by_cases hlt3 : k3 < 6
            · obtain ⟨n3, m3⟩ : (0 : Int) ≤ (k3 : Int) ∧ (k3 : Int) < 6 := by omega
              have dk3 : decide ((k3 : Int) < 6) = true := by simp; omega
              have T := T0.later hB3
              obtain ⟨x1, e1⟩ := T.nums k hlt
              obtain ⟨x2, e2⟩ := T.nums k2 hlt2
              obtain ⟨x3, e3⟩ := T.froms k3 hlt3
              go_wp2_with fail
              go_region_held3 (fun w' => w'.cell? ⟨w.heap.size, k, none⟩ = some (.int .i64 x1) ∧ w'.cell? ⟨w.heap.size, k2, none⟩ = some (.int .i64 x2) ∧ w'.cell? ⟨w.heap.size + 1, k3, none⟩ = some (.int .i64 x3) ∧ Below wr.heap.size wr w') (first | exact ⟨e1, e2, e3, (Below.refl _ _).drew⟩ | assumption | exact ⟨cell_later (below_new _ _).drew e1, cell_later (below_new _ _).drew e2, cell_later (below_new _ _).drew e3, (below_new _ _).drew⟩) (fail)
              have pm : Box (wr.alloc (.cells #[.int .i64 x1, .int .i64 x2, .int .i64 x3] 23)).drew wr.heap.size #[.int .i64 x1, .int .i64 x2, .int .i64 x3] 23 := Box.new wr _ _
              have hB4 : Below W0.heap.size W0 (wr.alloc (.cells #[.int .i64 x1, .int .i64 x2, .int .i64 x3] 23)).drew := (hB3.alloc hB3.size _).drew
              obtain ⟨W4, hW4⟩ : ∃ W4 : World, W4 = (wr.alloc (.cells #[.int .i64 x1, .int .i64 x2, .int .i64 x3] 23)).drew := ⟨_, rfl⟩
              rw [← hW4] at pm hB4
              rw [← hW4]
              obtain ⟨gm, hgm⟩ : ∃ gm, gm = wr.heap.size := ⟨_, rfl⟩
              rw [← hgm] at pm
              rw [← hgm]
              clear hW4 hgm T e1 e2 e3
              go_wp2_with fail
              go_loopw [8] (fun i wr4 => ∃ k4 : Nat, k4 ≤ 42 ∧ i = .int .i64 k4 ∧ Below W4.heap.size W4 wr4) (fun i _ => 42 - (intOf i).toNat)
              case atStart => exact ⟨0, by omega, rfl, Below.refl _ _⟩
              case round =>
                obtain ⟨k4, hk4, rfl, hB5⟩ := hrel
                by_cases hlt4 : k4 < 42
                · have T4 := T0.later hB4
                  obtain ⟨a1, q1, r1⟩ : ∃ a : Nat, (k4 : Int).tmod 4 = (a : Int) ∧ a < 4 := ⟨k4 % 4, by rw [Int.tmod_eq_emod_of_nonneg (by omega)]; omega, by omega⟩
                  obtain ⟨d1, q2, r2⟩ : ∃ d : Nat, (k4 : Int) / 4 = (d : Int) ∧ d < 11 := ⟨k4 / 4, by omega, by omega⟩
                  obtain ⟨s1, q3, r3⟩ : ∃ a : Nat, IntKind.i64.wrap ((d1 : Int) + (k : Int)) = (a : Int) ∧ a < 18 := ⟨d1 + k, by rw [IntWalk.i64_in _ (by omega)]; omega, by omega⟩
                  obtain ⟨a2, q4, r4⟩ : ∃ a : Nat, (s1 : Int).tmod 4 = (a : Int) ∧ a < 4 := ⟨s1 % 4, by rw [Int.tmod_eq_emod_of_nonneg (by omega)]; omega, by omega⟩
                  obtain ⟨a3, q5, r5⟩ : ∃ a : Nat, (k4 : Int).tmod 6 = (a : Int) ∧ a < 6 := ⟨k4 % 6, by rw [Int.tmod_eq_emod_of_nonneg (by omega)]; omega, by omega⟩
                  obtain ⟨a4, q6, r6⟩ : ∃ a : Nat, (k4 : Int) / 6 = (a : Int) ∧ a < 7 := ⟨k4 / 6, by omega, by omega⟩
                  have q7 : IntKind.i64.wrap (d1 : Int) = (d1 : Int) := IntWalk.i64_in _ (by omega)
                  have q8 : IntKind.i64.wrap (a4 : Int) = (a4 : Int) := IntWalk.i64_in _ (by omega)
                  have dk4 : decide ((k4 : Int) < 42) = true := by simp; omega
                  obtain ⟨y0, f0⟩ := T4.ends (a1 * 3) (by omega)
                  obtain ⟨y1, f1⟩ := T4.ends (a1 * 3 + 1) (by omega)
                  obtain ⟨y2, f2⟩ := T4.ends (a1 * 3 + 2) (by omega)
                  obtain ⟨z0, f3⟩ := T4.ends (a2 * 3) (by omega)
                  obtain ⟨z1, f4⟩ := T4.ends (a2 * 3 + 1) (by omega)
                  obtain ⟨z2, f5⟩ := T4.ends (a2 * 3 + 2) (by omega)
                  obtain ⟨fr, f6⟩ := T4.froms a3 r5
                  obtain ⟨nu, f7⟩ := T4.nums a4 r6
                  have HF : Hid (∀ w', Below W4.heap.size W4 w' → w'.cell? ⟨gm, 0, none⟩ = some (.int .i64 x1) ∧ w'.cell? ⟨gm, 1, none⟩ = some (.int .i64 x2) ∧ w'.cell? ⟨gm, 2, none⟩ = some (.int .i64 x3) ∧ w'.cell? ⟨w.heap.size + 1 + 1, a1 * 3, none⟩ = some (.int .i64 y0) ∧ w'.cell? ⟨w.heap.size + 1 + 1, a1 * 3 + 1, none⟩ = some (.int .i64 y1) ∧ w'.cell? ⟨w.heap.size + 1 + 1, a1 * 3 + 2, none⟩ = some (.int .i64 y2) ∧ w'.cell? ⟨w.heap.size + 1 + 1, a2 * 3, none⟩ = some (.int .i64 z0) ∧ w'.cell? ⟨w.heap.size + 1 + 1, a2 * 3 + 1, none⟩ = some (.int .i64 z1) ∧ w'.cell? ⟨w.heap.size + 1 + 1, a2 * 3 + 2, none⟩ = some (.int .i64 z2) ∧ w'.cell? ⟨w.heap.size + 1, a3, none⟩ = some (.int .i64 fr) ∧ w'.cell? ⟨w.heap.size, a4, none⟩ = some (.int .i64 nu) ∧ Below W4.heap.size W4 w') :=
                    fun w' q => ⟨cell_later q (pm.cell 0), cell_later q (pm.cell 1), cell_later q (pm.cell 2), cell_later q f0, cell_later q f1, cell_later q f2, cell_later q f3, cell_later q f4, cell_later q f5, cell_later q f6, cell_later q f7, q⟩
                  have g1 : (0 : Int) ≤ (a1 : Int) := by omega
                  have g2 : (a1 : Int) < 4 := by omega
                  have g3 : (0 : Int) ≤ (a2 : Int) := by omega
                  have g4 : (a2 : Int) < 4 := by omega
                  have g5 : (0 : Int) ≤ (a3 : Int) := by omega
                  have g6 : (a3 : Int) < 6 := by omega
                  have g7 : (0 : Int) ≤ (a4 : Int) := by omega
                  have g8 : (a4 : Int) < 7 := by omega
                  clear f0 f1 f2 f3 f4 f5 f6 f7 T4
                  go_wp2_with fail
                  go_region_held3 (fun w' => w'.cell? ⟨gm, 0, none⟩ = some (.int .i64 x1) ∧ w'.cell? ⟨gm, 1, none⟩ = some (.int .i64 x2) ∧ w'.cell? ⟨gm, 2, none⟩ = some (.int .i64 x3) ∧ w'.cell? ⟨w.heap.size + 1 + 1, a1 * 3, none⟩ = some (.int .i64 y0) ∧ w'.cell? ⟨w.heap.size + 1 + 1, a1 * 3 + 1, none⟩ = some (.int .i64 y1) ∧ w'.cell? ⟨w.heap.size + 1 + 1, a1 * 3 + 2, none⟩ = some (.int .i64 y2) ∧ w'.cell? ⟨w.heap.size + 1 + 1, a2 * 3, none⟩ = some (.int .i64 z0) ∧ w'.cell? ⟨w.heap.size + 1 + 1, a2 * 3 + 1, none⟩ = some (.int .i64 z1) ∧ w'.cell? ⟨w.heap.size + 1 + 1, a2 * 3 + 2, none⟩ = some (.int .i64 z2) ∧ w'.cell? ⟨w.heap.size + 1, a3, none⟩ = some (.int .i64 fr) ∧ w'.cell? ⟨w.heap.size, a4, none⟩ = some (.int .i64 nu) ∧ Below W4.heap.size W4 w')
                    (first | exact HF.out _ hB5.drew | exact HF.out _ (hB5.drew.trans (hb.mono hB5.size)))
                    ((go_at_call 4; refine (tells ⟨x1, x2, x3⟩ ⟨y0, y1, y2⟩ ⟨z0, z1, z2⟩ fr nu _ (errType_later HG.out (below_call P0 (below_call hB4 hB5.drew)))).mono ?_; rintro e w' ⟨rfl, hb⟩))
                  have hB6 := hB5.drew.trans (hb.mono hB5.size)
                  clear hb q1 q2 q3 q4 q5 q6 q7 q8
                  go_wp2_with fail
                  go_roundw
                  case rel => exact ⟨k4 + 1, by omega, by go_num, hB6⟩
                  case measure => simp [intOf]; omega
                · obtain rfl : k4 = 42 := by omega
                  go_wp2_with fail
                  go_roundw
                  case rel => first | exact ⟨k3 + 1, by omega, by go_num, below_call hB4 hB5⟩ | ((repeat apply Exists.intro); exact ⟨⟨k3 + 1, by omega, by go_num, below_call hB4 hB5⟩, rfl⟩)
                  case measure => simp [intOf]; omega
            · obtain rfl : k3 = 6 := by omega
              go_wp2_with fail
              go_roundw
              case rel => exact ⟨k2 + 1, by omega, by go_num, hB3⟩
              case measure => simp [intOf]; omega
        · obtain rfl : k2 = 7 := by omega
          go_wp2_with fail
          go_roundw
          case rel => exact ⟨k + 1, by omega, by go_num, hB2⟩
          case measure => simp [intOf]; omega
    · obtain rfl : k = 7 := by omega
      have T := T0.later hB
      have P := below_call P0 hB
      obtain ⟨x0, e0⟩ := T.ends 3 (by omega)
      obtain ⟨x1, e1⟩ := T.ends 4 (by omega)
      obtain ⟨x2, e2⟩ := T.ends 5 (by omega)
      go_wp2_with fail
      go_region_held3 (fun w' => w'.cell? ⟨w.heap.size + 1 + 1, 3, none⟩ = some (.int .i64 x0) ∧ w'.cell? ⟨w.heap.size + 1 + 1, 4, none⟩ = some (.int .i64 x1) ∧ w'.cell? ⟨w.heap.size + 1 + 1, 5, none⟩ = some (.int .i64 x2) ∧ Below wr.heap.size wr w') (first | exact ⟨e0, e1, e2, (Below.refl _ _).drew⟩ | assumption | exact s3_later (by assumption) (by assumption) | exact s3_later (by assumption) (Below.refl _ _).drew) (first | (go_at_call_of 4 (Value.int .i64 1); refine (tells ⟨-9223372036854775808, 9223372036854775807, 0⟩ ⟨x0, x1, x2⟩ ⟨x0, x1, x2⟩ 1 9223372036854775807 _ (errType_later HG.out (below_call P (s3_below (by assumption))))).mono ?_; rintro e w' ⟨rfl, hb⟩) | (go_at_call 4; refine (tells ⟨0, 0, 0⟩ ⟨x0, x1, x2⟩ ⟨x0, x1, x2⟩ 9223372036854775807 (-9223372036854775808) _ (errType_later HG.out (below_call P (s3_below (by assumption))))).mono ?_; rintro e w' ⟨rfl, hb⟩) | (go_at_call 7; refine (tAwake _ (errType_later HG.out (below_call P (s3_below (by assumption))))).mono ?_; rintro e w' ⟨rfl, hb⟩))
      rename_i hH
      have P := below_call P (s3_below hH)
      clear hH
      go_wp2_with fail
      exact bodyPost_ret (v := .bool true) (by simp [results, Tryd.results5, go_sem]) rfl ⟨rfl, P⟩
end Go.Proofs.YtgbdnkmfinoopaaDoor
