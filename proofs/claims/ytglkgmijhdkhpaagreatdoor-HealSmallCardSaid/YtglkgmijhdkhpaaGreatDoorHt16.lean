/-
  Merged: SortIdt7, OwnClear.
-/
import Derived.Test.YtglkgmijhdkhpaaGreatDoorHt15
import Derived.Test.YtglkgmijhdkhpaaGreatDoorHt10
import Derived.Lib.SliceRun
import Derived.Laws.IdiomCopy
/-
  slices.SortStableFunc's symMerge at identities, stable: contract.
-/
set_option linter.unusedVariables false
set_option linter.unusedSimpArgs false
namespace Go.Proofs.YtglkgmijhdkhpaaGreatDoor
open Go.RowKit


set_option maxRecDepth 100000 in
set_option maxHeartbeats 16000000 in
theorem idtStable (base g n c : Nat) (T0 : List (Idt × Nat)) (w : World) (h : Own 3 idRow 42 base w (.slice (some ⟨g, 0, none⟩) n c) (ut T0)) (hT : T0.Pairwise fun x y => x.2 < y.2) (hn : n ≤ 100000) :
    Calls Tryz.prog 97 #[.slice (some ⟨g, 0, none⟩) n c, .int .i64 (n : Int), .func (.func 62) #[] #[]] w fun e w' => e = .returned (.tuple #[]) ∧ (∃ R, SL Idt.idx R ∧ R.Perm T0 ∧ Own 3 idRow 42 base w' (.slice (some ⟨g, 0, none⟩) n c) (ut R)) ∧ Below base w w' := by
  have HO0 := Lib.hid h
  have HT := Lib.hid hT
  have hnl := h.capLen
  rw [ut_length] at hnl
  have HNL := Lib.hid hnl
  have n1 : (n : Int) ≤ 100000 := by omega
  have n0 : (0 : Int) ≤ (n : Int) := by omega
  clear h hT hnl
  go_enter Tryz.func97, Tryz.ntmps97
  go_wp2_with fail
  go_loopw [7, 8] (fun s t wr => ∃ (k : Nat) (cs : List (List (Idt × Nat))) (Rest : List (Idt × Nat)), s = .int .i64 (k : Int) ∧ t = .int .i64 ((k : Int) + 20) ∧ k = cs.length * 20 ∧ k ≤ n ∧ PreB 20 T0 cs Rest ∧ Own 3 idRow 42 base wr (.slice (some ⟨g, 0, none⟩) n c) (ut cs.flatten ++ ut Rest) ∧ Below base w wr) (fun s _ _ => n + 1 - (sOf s).toNat)
  case atStart => exact ⟨0, [], T0, rfl, rfl, rfl, by omega, PreB.zero HT.out, by have h := HO0.out; simpa [ut] using h, Below.refl _ _⟩
  case round =>
    clear HO0
    obtain ⟨k, cs, Rest, rfl, rfl, hk, hkn, hp, ho, hB⟩ := hrel
    have HP := Lib.hid hp
    have HO := Lib.hid ho
    have HB := Lib.hid hB
    have HK := Lib.hid hk
    have hfl : cs.flatten.length = k := by rw [flat_mul hp.each, hk]
    have hrl : k + Rest.length = n := by have := HNL.out; have := hp.perm.length_eq; rw [List.length_append] at this; omega
    have HFL := Lib.hid hfl
    have HRL := Lib.hid hrl
    have k0 : (0 : Int) ≤ (k : Int) := by omega
    have k1 : (k : Int) ≤ (n : Int) := by omega
    clear hk hp ho hB hfl hrl
    by_cases hlt : k + 20 ≤ n
    · have d0 : decide ((k : Int) + 20 ≤ (n : Int)) = true := decide_eq_true (by omega)
      have d1 : (k : Int) + 20 ≤ (n : Int) := by omega
      have L : Hid (Calls Tryz.prog 116 #[.slice (some ⟨g, 0, none⟩) n c, .int .i64 (k : Int), .int .i64 ((k : Int) + 20), .func (.func 62) #[] #[]] wr fun e w' => e = .returned (.tuple #[]) ∧ (∃ R, SL Idt.idx R ∧ R.Perm (Rest.take 20) ∧ Own 3 idRow 42 base w' (.slice (some ⟨g, 0, none⟩) n c) (ut cs.flatten ++ ut R ++ ut (Rest.drop 20))) ∧ Below base wr w') := by
        have hfl := HFL.out
        have hrl := HRL.out
        have h := idtIns base g n c (ut cs.flatten) (ut (Rest.drop 20)) (Rest.take 20) k (k + 20) wr (by have h := HO.out; rw [ut_split Rest 20, ← List.append_assoc] at h; exact h) (HP.out.rise.sublist (List.take_sublist _ _)) (by rw [ut_length]; exact hfl) (by rw [List.length_take]; omega) hn
        rw [show ((k + 20 : Nat) : Int) = (k : Int) + 20 by omega] at h
        exact h
      go_wp2_with (go_at_call 116; (with_reducible refine L.out.mono ?_); rintro e w3 ⟨rfl, ⟨R, r1, r2, r3⟩, hb3⟩; have R1 := Lib.hid r1; have R2 := Lib.hid r2; have R3 := Lib.hid r3; have HB3 := Lib.hid (HB.out.trans hb3); clear r1 r2 r3 hb3)
      go_roundw
      case rel =>
        have hrl := HRL.out
        exact ⟨k + 20, cs ++ [R], Rest.drop 20, by go_num, by go_num, by rw [List.length_append, HK.out]; simp; omega, by omega, PreB.step (X := Rest.take 20) (by rw [List.take_append_drop]; exact HP.out) (by rw [List.length_take]; omega) R1.out R2.out, by have h := R3.out; simpa [ut, List.append_assoc] using h, HB3.out⟩
      case measure => first | (simp [sOf]; done) | (simp [sOf]; omega)
    · have d0 : decide ((k : Int) + 20 ≤ (n : Int)) = false := decide_eq_false (by omega)
      have d1 : ¬ (k : Int) + 20 ≤ (n : Int) := by omega
      have L : Hid (Calls Tryz.prog 116 #[.slice (some ⟨g, 0, none⟩) n c, .int .i64 (k : Int), .int .i64 (n : Int), .func (.func 62) #[] #[]] wr fun e w' => e = .returned (.tuple #[]) ∧ (∃ last, Chk Idt.idx 20 cs last ∧ (cs.flatten ++ last).Perm T0 ∧ Own 3 idRow 42 base w' (.slice (some ⟨g, 0, none⟩) n c) (ut (cs.flatten ++ last))) ∧ Below base wr w') := by
        have hfl := HFL.out
        have hrl := HRL.out
        refine (idtIns base g n c (ut cs.flatten) [] Rest k n wr (by have h := HO.out; simpa using h) HP.out.rise (by rw [ut_length]; exact hfl) hrl hn).mono ?_
        rintro e w' ⟨h1, ⟨R, r1, r2, r3⟩, h3⟩
        obtain ⟨c1, c2⟩ := HP.out.chk (by omega) r1 r2
        exact ⟨h1, ⟨R, c1, c2, by simpa [ut] using r3⟩, h3⟩
      clear d1 hkn hlt
      go_wp2_with (go_at_call 116; (with_reducible refine L.out.mono ?_); rintro e w3 ⟨rfl, ⟨last, r1, r2, r3⟩, hb3⟩; have R1 := Lib.hid r1; have R2 := Lib.hid r2; have R3 := Lib.hid r3; have HB3 := Lib.hid (HB.out.trans hb3); clear r1 r2 r3 hb3)
      clear L HO HB HP
      go_loopw [6, 7, 8, 9] (fun s _ _ _ wr => ∃ (z : Nat) (cs : List (List (Idt × Nat))) (last : List (Idt × Nat)), s = .int .i64 (z : Int) ∧ 20 ≤ z ∧ z ≤ 200000 ∧ Chk Idt.idx z cs last ∧ (cs.flatten ++ last).Perm T0 ∧ Own 3 idRow 42 base wr (.slice (some ⟨g, 0, none⟩) n c) (ut (cs.flatten ++ last)) ∧ Below base w wr) (fun s _ _ _ _ => n - (sOf s).toNat)
      case atStart => exact ⟨20, cs, last, rfl, by omega, by omega, R1.out, R2.out, R3.out, HB3.out⟩
      case round =>
        clear R1 R2 R3 HB3 HK HFL HRL k0 k1 d0
        obtain ⟨z, cs, last, rfl, hz1, hz2, hc, hp, ho, hB⟩ := hrel
        have HC := Lib.hid hc
        have HP := Lib.hid hp
        have HO := Lib.hid ho
        have HB := Lib.hid hB
        have z0 : (20 : Int) ≤ (z : Int) := by omega
        have z1 : (z : Int) ≤ 200000 := by omega
        clear hc hp ho hB
        by_cases hzn : z < n
        · have d0 : decide ((z : Int) < (n : Int)) = true := decide_eq_true (by omega)
          have d1 : (z : Int) < (n : Int) := by omega
          go_wp2_with fail
          obtain ⟨W4, hW4⟩ : ∃ q, q = wr := ⟨_, rfl⟩
          rw [← hW4] at HO HB
          rw [← hW4]
          clear hW4
          go_loopw [7, 8] (fun s t wr => ∃ (k : Nat) (done cs : List (List (Idt × Nat))), s = .int .i64 (k : Int) ∧ t = .int .i64 ((k : Int) + 2 * (z : Int)) ∧ k = done.length * (2 * z) ∧ Half Idt.idx z done cs last ∧ (done.flatten ++ (cs.flatten ++ last)).Perm T0 ∧ Own 3 idRow 42 base wr (.slice (some ⟨g, 0, none⟩) n c) (ut done.flatten ++ ut (cs.flatten ++ last)) ∧ Below base w wr) (fun s _ _ => n + 1 - (sOf s).toNat)
          case atStart => exact ⟨0, [], cs, rfl, by simp, by simp, HC.out.half, by simpa using HP.out, by have h := HO.out; simpa [ut] using h, HB.out⟩
          case round =>
            clear HO HB HC HP
            obtain ⟨k, done, cs, rfl, rfl, hk, hh, hp, ho, hB⟩ := hrel
            have HH := Lib.hid hh
            have HP := Lib.hid hp
            have HO := Lib.hid ho
            have HB := Lib.hid hB
            have HK := Lib.hid hk
            have hdl : done.flatten.length = k := by rw [flat_mul hh.big, hk]
            have hcl : cs.flatten.length = cs.length * z := flat_mul hh.each
            have hnn : k + (cs.length * z + last.length) = n := by have := HNL.out; have h2 := hp.length_eq; rw [List.length_append, List.length_append, hdl, hcl] at h2; omega
            have hls := hh.less
            have k0 : (0 : Int) ≤ (k : Int) := by omega
            have k1 : (k : Int) ≤ 100000 := by omega
            have HDL := Lib.hid hdl
            have HNN := Lib.hid hnn
            have HLS := Lib.hid hls
            clear hk hh hp ho hB hdl hcl hls
            by_cases hkn : k + 2 * z ≤ n
            · have e0 : decide ((k : Int) + 2 * (z : Int) ≤ (n : Int)) = true := decide_eq_true (by omega)
              have e0' : (k : Int) + 2 * (z : Int) ≤ (n : Int) := by omega
              have hcs : ∃ U V cs', cs = U :: V :: cs' := by
                match cs, hnn with
                | [], h => simp at h; have := HLS.out; omega
                | [U], h => simp at h; have := HLS.out; omega
                | U :: V :: cs', _ => exact ⟨U, V, cs', rfl⟩
              obtain ⟨U, V, cs', rfl⟩ := hcs
              have lU := (HH.out.each U (by simp)).1
              have lV := (HH.out.each V (by simp)).1
              have L : Hid (Calls Tryz.prog 117 #[.slice (some ⟨g, 0, none⟩) n c, .int .i64 (k : Int), .int .i64 ((k : Int) + (z : Int)), .int .i64 ((k : Int) + 2 * (z : Int)), .func (.func 62) #[] #[]] wr fun e w' => e = .returned (.tuple #[]) ∧ (∃ R, Mrg Idt.idx U V R ∧ Own 3 idRow 42 base w' (.slice (some ⟨g, 0, none⟩) n c) (ut done.flatten ++ ut R ++ ut (cs'.flatten ++ last))) ∧ Below base wr w') := by
                have hdl := HDL.out
                have h := idtSym base g n c (ut done.flatten) (ut (cs'.flatten ++ last)) U V k (k + z) (k + 2 * z) wr (by have h := HO.out; simpa [ut, List.append_assoc] using h) (HH.out.each U (by simp)).2 (HH.out.each V (by simp)).2 HH.out.tg (by rw [ut_length]; exact hdl) (by omega) (by omega) hn (by omega) (by omega)
                rw [show ((k + z : Nat) : Int) = (k : Int) + (z : Int) by omega, show ((k + 2 * z : Nat) : Int) = (k : Int) + 2 * (z : Int) by omega] at h
                exact h
              clear hnn lU lV
              go_wp2_with (go_at_call 117; (with_reducible refine L.out.mono ?_); rintro e w5 ⟨rfl, ⟨R, r1, r2⟩, hb5⟩; have R1 := Lib.hid r1; have R2 := Lib.hid r2; have HB5 := Lib.hid (HB.out.trans hb5); clear r1 r2 hb5)
              go_roundw
              case rel =>
                refine ⟨k + 2 * z, done ++ [R], cs', by go_num, by go_num, by rw [List.length_append, HK.out]; simp; rw [Nat.add_mul]; omega, HH.out.step R1.out, ?_, by have h := R2.out; simpa [ut, List.append_assoc] using h, HB5.out⟩
                refine List.Perm.trans ?_ HP.out
                rw [List.flatten_append, List.append_assoc, List.perm_append_left_iff]
                simpa [List.append_assoc] using R1.out.perm.append_right (cs'.flatten ++ last)
              case measure => first | (simp [sOf]; done) | (simp [sOf]; omega)
            · have e0 : decide ((k : Int) + 2 * (z : Int) ≤ (n : Int)) = false := decide_eq_false (by omega)
              have e0' : ¬ (k : Int) + 2 * (z : Int) ≤ (n : Int) := by omega
              have hcs : cs = [] ∨ ∃ U, cs = [U] := by
                match cs, hnn with
                | [], h => exact .inl rfl
                | [U], h => exact .inr ⟨U, rfl⟩
                | U :: V :: cs', h => simp [Nat.add_mul] at h; omega
              by_cases hkz : k + z < n
              · have e1 : decide ((k : Int) + (z : Int) < (n : Int)) = true := decide_eq_true (by omega)
                have e1' : (k : Int) + (z : Int) < (n : Int) := by omega
                have hU : ∃ U, cs = [U] := by
                  rcases hcs with rfl | h
                  · simp at hnn; have := HLS.out; omega
                  · exact h
                obtain ⟨U, rfl⟩ := hU
                have lU := (HH.out.each U (by simp)).1
                simp at hnn
                have L : Hid (Calls Tryz.prog 117 #[.slice (some ⟨g, 0, none⟩) n c, .int .i64 (k : Int), .int .i64 ((k : Int) + (z : Int)), .int .i64 (n : Int), .func (.func 62) #[] #[]] wr fun e w' => e = .returned (.tuple #[]) ∧ (∃ R, Mrg Idt.idx U last R ∧ Own 3 idRow 42 base w' (.slice (some ⟨g, 0, none⟩) n c) (ut done.flatten ++ ut R)) ∧ Below base wr w') := by
                  have hdl := HDL.out
                  have h := idtSym base g n c (ut done.flatten) [] U last k (k + z) n wr (by have h := HO.out; simpa [ut, List.append_assoc] using h) (HH.out.each U (by simp)).2 HH.out.sl HH.out.tg_last (by rw [ut_length]; exact hdl) (by omega) (by omega) hn (by omega) (by omega)
                  rw [show ((k + z : Nat) : Int) = (k : Int) + (z : Int) by omega] at h
                  exact h.mono fun e w' ⟨h1, ⟨R, h2, h3⟩, h4⟩ => ⟨h1, ⟨R, h2, by simpa using h3⟩, h4⟩
                clear hnn lU hcs
                go_wp2_with (go_at_call 117; (with_reducible refine L.out.mono ?_); rintro e w5 ⟨rfl, ⟨R, r1, r2⟩, hb5⟩; have R1 := Lib.hid r1; have R2 := Lib.hid r2; have HB5 := Lib.hid (HB.out.trans hb5); clear r1 r2 hb5)
                go_roundw
                case rel =>
                  refine ⟨2 * z, done, R, by go_num, by omega, by omega, HH.out.end2 R1.out, ?_, by have h := R2.out; simpa [ut, List.append_assoc] using h, HB5.out⟩
                  refine List.Perm.trans ?_ HP.out
                  rw [List.perm_append_left_iff]
                  simpa using R1.out.perm
                case measure => first | (simp [sOf]; done) | (simp [sOf]; omega)
              · have e1 : decide ((k : Int) + (z : Int) < (n : Int)) = false := decide_eq_false (by omega)
                have e1' : ¬ (k : Int) + (z : Int) < (n : Int) := by omega
                have HE : Hid (∃ last', Chk Idt.idx (2 * z) done last' ∧ (done.flatten ++ last').Perm T0 ∧ Own 3 idRow 42 base wr (.slice (some ⟨g, 0, none⟩) n c) (ut (done.flatten ++ last'))) := by
                  rcases hcs with rfl | ⟨U, rfl⟩
                  · exact Lib.hid ⟨last, HH.out.end0, by simpa using HP.out, by have h := HO.out; simpa [ut] using h⟩
                  · simp at hnn
                    have hl0 : last = [] := List.eq_nil_of_length_eq_zero (by omega)
                    have hh := HH.out
                    have hp := HP.out
                    have ho := HO.out
                    rw [hl0] at hh hp ho
                    exact Lib.hid ⟨U, hh.end1, by simpa using hp, by simpa [ut] using ho⟩
                obtain ⟨last', g1, g2, g3⟩ := HE.out
                have G1 := Lib.hid g1
                have G2 := Lib.hid g2
                have G3 := Lib.hid g3
                clear hnn hcs HE g1 g2 g3
                go_wp2_with fail
                go_roundw
                case rel => exact ⟨2 * z, done, last', by go_num, by omega, by omega, G1.out, G2.out, G3.out, HB.out⟩
                case measure => first | (simp [sOf]; done) | (simp [sOf]; omega)
        · have d0 : decide ((z : Int) < (n : Int)) = false := decide_eq_false (by omega)
          have d1 : ¬ (z : Int) < (n : Int) := by omega
          have HS := Lib.hid (HC.out.done (by have := HP.out.length_eq; have := HNL.out; omega))
          go_wp2_with fail
          go_end0
          exact ⟨rfl, ⟨_, HS.out, HP.out, HO.out⟩, HB.out⟩
end Go.Proofs.YtglkgmijhdkhpaaGreatDoor
/-
  WORLD LEMMAS that name no program: the end of an owned row cleared; rows of an owned slice written whole.
-/
set_option linter.unusedVariables false
namespace Go.Proofs.YtglkgmijhdkhpaaGreatDoor
open Go.RowKit

theorem below_grown_own {base g : Nat} {w w' : World} (h : w.grownBy w' (some g)) (hg : base ≤ g) (hB : base ≤ w.heap.size) : Below base w w' := (Below.refl base w).grown h hB (fun k e => by cases e; exact hg)
theorem ownsRow_setCells {base e size g n cap : Nat} : ∀ (vs : List Value) (o : Nat) (w : World) (xs : List Value), w.ownsRow base e size (.slice (some ⟨g, 0, none⟩) n cap) n xs →
    ∃ ys, (w.setCells g o vs).ownsRow base e size (.slice (some ⟨g, 0, none⟩) n cap) n ys ∧ ys.take o = xs.take o ∧ Below base w (w.setCells g o vs)
  | [], o, w, xs, h => ⟨xs, h, rfl, Below.refl _ _⟩
  | v :: r, o, w, xs, h => by
    have hs := World.ownsRow.stored h o v
    have hlt := World.ownsRow.lt h g rfl
    obtain ⟨ys, h1, h2, h3⟩ := ownsRow_setCells r (o + 1) _ _ hs.1
    refine ⟨ys, h1, ?_, (below_grown_own hs.2 hlt.1 (by omega)).trans h3⟩
    have h4 := congrArg (List.take o) h2
    rw [List.take_take, List.take_take, Nat.min_eq_left (by omega), List.take_set_of_le (by omega)] at h4
    exact h4
theorem ownsRow_cut {base e size g n m cap : Nat} {w : World} {xs : List Value} (h : w.ownsRow base e size (.slice (some ⟨g, 0, none⟩) n cap) n xs) (hm : m ≤ n) : w.ownsRow base e size (.slice (some ⟨g, 0, none⟩) m cap) m (xs.take (m * size)) := by
  have hle : m * size ≤ n * size := Nat.mul_le_mul_right _ hm
  refine ⟨by rw [List.length_take, h.1]; omega, ?_⟩
  rcases h.2 with ⟨h', _⟩ | ⟨g', cap', cur, h', hb, hg, hnc, hcm, hcs, htake⟩
  · simp at h'
  · simp only [Value.slice.injEq, Option.some.injEq, Addr.mk.injEq, and_true, true_and] at h'
    obtain ⟨rfl, rfl⟩ := h'
    exact .inr ⟨g, cap, cur, rfl, hb, hg, by omega, hcm, hcs, by rw [← htake, List.take_take, Nat.min_eq_left hle]⟩
section
variable {α : Type} {k : Nat} {row : α → List Value} {e : TypeId} {base : Nat} {w : World} {l : List α}
theorem flat_take (hrow : ∀ x, (row x).length = k) : ∀ (l : List α) (i : Nat), (l.flatMap row).take (i * k) = (l.take i).flatMap row := by
  intro l
  induction l with
  | nil => intro i; simp
  | cons x l ih =>
    intro i
    cases i with
    | zero => simp
    | succ i =>
      rw [List.take_succ_cons, List.flatMap_cons, List.flatMap_cons, Nat.succ_mul, List.take_append, hrow, List.take_of_length_le (by rw [hrow]; omega), Nat.add_sub_cancel, ih]
/-- 'clear(s[i:])' of an owned slice. -/
theorem own_clear {P : Program} {t ty : TypeId} {z : Value} {g n cap i : Nat} (hrow : ∀ x, (row x).length = k) (ht : P.underlying t = some (.slice e)) (hv : ∀ w, (zeroValue e).run P w = .ok z w) (hz : z.cells.size = k) (h1 : ∀ u ∈ z.cells, u.oneCell' = true)
    (h : Own k row e base w (.slice (some ⟨g, 0, none⟩) n cap) l) (hi : i < n) :
    ∃ w', (Builtin.clear_ #[t] ty #[.slice (some ⟨g, i * k, none⟩) (n - i) (cap - i)]).run P w = .ok (.tuple #[]) w' ∧ Own k row e base w' (.slice (some ⟨g, 0, none⟩) i cap) (l.take i) ∧ Below base w w' := by
  have hn : n = l.length := by
    obtain ⟨A, c, hv⟩ := h.len
    simp only [Value.slice.injEq] at hv
    exact hv.2.1
  have hown : w.ownsRow base e k (.slice (some ⟨g, 0, none⟩) n cap) n (l.flatMap row) := by subst hn; exact h
  obtain ⟨zs, hzs⟩ : ∃ zs, zs = (Builtin.zeroCells z.cells (n - i)).toList := ⟨_, rfl⟩
  have hzl : zs.length = (n - i) * k := by rw [hzs]; simp [Builtin.zeroCells, hz]
  have hz1 : ∀ v ∈ zs, v.oneCell' = true := by
    intro v hv
    rw [hzs] at hv
    simp only [Builtin.zeroCells, Array.toList_map, Array.toList_range, List.mem_map, List.mem_range] at hv
    obtain ⟨j, hj, rfl⟩ := hv
    have hk : j % z.cells.size < z.cells.size := Nat.mod_lt _ (by
      rcases Nat.eq_zero_or_pos z.cells.size with h0 | h0
      · rw [h0] at hj; simp at hj
      · exact h0)
    rw [getElem!_pos z.cells _ hk]
    exact h1 _ (Array.getElem_mem hk)
  obtain ⟨g', cap', cur, hv', hb, hg, hnc, hcm, hcs, htake⟩ : ∃ g' cap' cur, Value.slice (some ⟨g, 0, none⟩) n cap = .slice (some ⟨g', 0, none⟩) n cap' ∧ base ≤ g' ∧ w.heap[g']? = some (.cells cur e (0, 0)) ∧ n ≤ cap' ∧ cap' ≤ maxLen ∧ cur.size = cap' * k ∧ cur.toList.take (n * k) = l.flatMap row := by
    rcases hown.2 with ⟨h', _⟩ | h'
    · simp at h'
    · exact h'
  simp only [Value.slice.injEq, Option.some.injEq, Addr.mk.injEq, and_true, true_and] at hv'
  obtain ⟨rfl, rfl⟩ := hv'
  have hcell : ∀ o, o < cap * k → (w.cell? ⟨g, o, none⟩).isSome = true := by
    intro o ho
    simp [World.cell?, hg, hcs, ho]
  have hin : i * k + (n - i) * k = n * k := by rw [← Nat.add_mul]; congr 1; omega
  have hnk : n * k ≤ cap * k := Nat.mul_le_mul_right _ hnc
  have hst := run_storeCells_cells (P := P) g (i * k) zs 0 w (by intro j hj; simp at hj ⊢; exact hcell _ (by omega)) (by intro j hj; simp [World.frozen?, hg]) hz1
  simp only [Nat.add_zero] at hst
  obtain ⟨ys, r1, r2, r3⟩ := ownsRow_setCells zs (i * k) w _ hown
  refine ⟨_, ?_, ?_, r3⟩
  · obtain ⟨m, hm⟩ : ∃ m, n - i = m + 1 := ⟨n - i - 1, by omega⟩
    rw [hzs, hm] at hst
    rw [hm]
    simp [Builtin.clear_, run_underlying ht, hv, hst, hzs, hm]
  · have := ownsRow_cut r1 (Nat.le_of_lt hi)
    rw [r2, flat_take hrow] at this
    unfold Own
    rw [List.length_take, Nat.min_eq_left (by omega)]
    exact this
end
end Go.Proofs.YtglkgmijhdkhpaaGreatDoor
