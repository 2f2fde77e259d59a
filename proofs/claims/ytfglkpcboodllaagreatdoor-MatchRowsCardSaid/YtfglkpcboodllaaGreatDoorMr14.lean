/-
  Merged: KitBytes, KitEnts.
-/
import Derived.Test.YtfglkpcboodllaaGreatDoorMr13
/-
  limpetkit's LentBytes, KeptBytes: contracts.
-/
set_option linter.unusedVariables false
set_option linter.unusedSimpArgs false
namespace Go.Proofs.YtfglkpcboodllaaGreatDoor
open Go.RowKit

def mrkB (i : Nat) : Int := mkB 1 (i : Int)
def marksB : List Int := (List.range 12).map mrkB
theorem marksB_length : marksB.length = 12 := rfl
theorem marksB_at {i : Nat} (h : i < 12) : marksB[i]? = some (mrkB i) := by simp [marksB, h]
theorem marksB_more {i : Nat} (h : i < 12) : marksB.take (i + 1) = marksB.take i ++ [mrkB i] := take_at (marksB_at h)

set_option maxHeartbeats 1000000 in
theorem lentBytes (l : List Int) (v : Value) (w : World) (h : Sl 1 u8Row w.heap.size w v l) (hn : l.length ≤ 1000000) :
    Calls Tryz.prog 62 #[v] w fun e w' => ∃ g cp, e = .returned (.slice (some ⟨g, 0, none⟩) l.length cp) ∧ w.heap.size ≤ g ∧ Lnt 1 u8Row marksB w'.heap.size w' (.slice (some ⟨g, 0, none⟩) l.length cp) l ∧ Below w.heap.size w w' := by
  have h' := h
  obtain ⟨A, cap, rfl, hlc, hcm, hN, -⟩ := h'
  clear hcm hN
  go_enter Tryz.func62, Tryz.ntmps62
  go_wp2_with (first
    | (at_make; refine wpList_make_rows _ rfl _ _ 26 rfl u8Row w.heap.size 5 _ 1 1 Tryz.underlying26 u8Info .i64 .i64 _ (l.length + 12) rfl rfl (by omega) (by omega) (by omega) (Nat.le_refl _) ?_; intro w0 hown0 hb0)
    | (at_builtin; refine wpList_append_all _ rfl (.tmp 9) (.tmp 10) 26 rfl w.heap.size 5 _ 1 1 Tryz.underlying26 u8Info rfl (by omega) u8Row u8Row_length u8Row_one [] _ rfl hown0 l w.heap.size _ (h.below hb0) rfl (by unfold maxLen; simp; omega) (by simp; omega) hb0.size ?_; intro v' w' h1 h2 h3 h4 h5))
  have hB := hb0.trans h2
  rw [List.nil_append] at h1
  clear hown0 hb0 h2 h3 h4 h5
  go_loopw [3, 4] (fun v i wr => ∃ k : Nat, k ≤ 12 ∧ i = .int .i64 k ∧ Own 1 u8Row 5 w.heap.size wr v (l ++ marksB.take k) ∧ (v = .slice none 0 0 → k = 0) ∧ Below w.heap.size w wr) (fun _ i _ => 12 - (intOf i).toNat)
  case atStart => exact ⟨0, by omega, rfl, by simpa using h1, fun _ => rfl, hB⟩
  case round =>
    clear h1 hB
    obtain ⟨k, hk, rfl, hown, hnn, hB⟩ := hrel
    by_cases hlt : k < 12
    · have HO := Lib.hid hown
      have HN := Lib.hid hnn
      have hz := hB.size
      have hle : (l ++ marksB.take k).length ≤ 1000012 := by have := List.length_take_le k marksB; rw [List.length_append]; omega
      clear hown hnn
      go_wp2_with (first
        | (go_at_call 116; refine (markByteAny 1 k _ (by omega) (by omega) (by omega) (by omega)).mono ?_; rintro e w' ⟨rfl, rfl⟩)
        | (at_builtin; refine wpList_append_row _ rfl (.tmp 16) (.tmp 19) 26 rfl w.heap.size 5 _ 1 1 Tryz.underlying26 u8Info rfl (by omega) u8Row u8Row_length u8Row_one _ _ rfl HO.out (mrkB k) _ rfl 5 _ rfl rfl (by omega) (by omega) hz ?_; intro v' w' p1 p2 p3 p4 p5))
      have HP := Lib.hid p1
      have HB := Lib.hid (hB.trans p2)
      have HV := Lib.hid p5
      clear p1 p2 p3 p4 p5 hB
      go_roundw
      case rel => exact ⟨k + 1, by omega, by go_num, by rw [marksB_more hlt, ← List.append_assoc]; exact HP.out, fun h => absurd h HV.out, HB.out⟩
      case measure => simp [intOf]; omega
    · obtain rfl : k = 12 := by omega
      have h3 : u3 ≠ .slice none 0 0 := fun h => by have := hnn h; omega
      obtain ⟨g, cp, rfl, q1, q2, q3, q4⟩ := hown.form' h3
      have HL : Hid (Lnt 1 u8Row marksB wr.heap.size wr (.slice (some ⟨g, 0, none⟩) l.length cp) l) := Own.lnt hown u8Row_length (by decide)
      have HB := Lib.hid hB
      have hlen : (l ++ marksB.take 12).length = l.length + 12 := by rw [List.length_append]; rfl
      rw [hlen] at q1
      clear hown hnn h3 hB
      go_wp2
      go_ret
      exact ⟨_, _, rfl, q3, HL.out, HB.out⟩

set_option maxRecDepth 100000 in
set_option maxHeartbeats 2000000 in
theorem keptBytes (l : List Int) (v v' : Value) (w : World) (h : Lnt 1 u8Row marksB w.heap.size w v l) (h' : Sl 1 u8Row w.heap.size w v' l) (hn : l.length ≤ 1000000) :
    Calls Tryz.prog 72 #[v, v'] w fun e w' => e = .returned (.bool true) ∧ Below w.heap.size w w' := by
  obtain ⟨g, cap, rfl, q1, q2, hg, hall⟩ := h
  obtain ⟨A', cap', rfl, hlc', hcm', -, hA'⟩ := h'
  rw [marksB_length] at q1
  have q2' : cap ≤ 9223372036854775807 := by unfold maxLen at q2; omega
  have HALL := Lib.hid hall
  have HA := Lib.hid hA'
  clear hcm' q2 hall hA'
  go_enter Tryz.func72, Tryz.ntmps72
  go_wp2_with fail
  go_loopw [6] (fun i wr => ∃ k : Nat, k ≤ l.length + 12 ∧ i = .int .i64 k ∧ Below w.heap.size w wr) (fun i _ => l.length + 12 - (intOf i).toNat)
  case atStart => exact ⟨0, by omega, rfl, Below.refl _ _⟩
  case round =>
    obtain ⟨k, hk, rfl, hB⟩ := hrel
    have HB := Lib.hid hB
    clear hB
    have i0 : (0 : Int) ≤ (k : Int) := by omega
    by_cases hlt : k < l.length
    · obtain ⟨b', off', rfl, hb', hcell'⟩ := HA.out (by intro h; subst h; simp at hlt)
      obtain ⟨x, hx⟩ : ∃ x, l[k]? = some x := ⟨_, List.getElem?_eq_getElem hlt⟩
      have c0 : ∀ zw : Ext wr, zw.wd.cell? ⟨g, k, none⟩ = some (.int .u8 x) := fun zw => ((HB.out.trans (zw.low.mono HB.out.size)).cell (p := ⟨g, k, none⟩) hg).trans (by simpa using HALL.out k x (by rw [List.getElem?_append_left hlt]; exact hx) 0 _ rfl)
      have c1 : ∀ zw : Ext wr, zw.wd.cell? ⟨b', off' + k, none⟩ = some (.int .u8 x) := fun zw => ((HB.out.trans (zw.low.mono HB.out.size)).cell (p := ⟨b', off' + k, none⟩) hb').trans (by simpa using hcell' k x hx 0 _ rfl)
      have i1 : (k : Int) < (l.length : Int) := by omega
      have i2 : (k : Int) < (l.length : Int) + 12 := by omega
      have d1 : decide (k < l.length) = true := by simpa using hlt
      have d2 : decide (l.length ≤ k) = false := by simpa using hlt
      have d3 : decide ((k : Int) < (l.length : Int)) = true := decide_eq_true i1
      have d4 : decide ((l.length : Int) ≤ (k : Int)) = false := decide_eq_false (by omega)
      have d5 : decide ((k : Int) < (l.length : Int) + 12) = true := decide_eq_true i2
      clear hcell' hx
      go_upto_region 7 with fail
      refine wp_region_ext (by kernel_rfl) (by kernel_rfl) ?_
      repeat (go_big_quiet_step (fail))
      refine wpQuiet_nil ?_
      intro _ hw'
      obtain ⟨x5, hw''⟩ := hw'
      subst hw''
      go_wp2_with fail
      go_roundw
      case rel => exact ⟨k + 1, by omega, by go_num, HB.out.trans (x5.low.mono HB.out.size)⟩
      case measure => simp [intOf]; omega
    · by_cases hlt2 : k < l.length + 12
      · obtain ⟨j, hj⟩ : ∃ j, j = k - l.length := ⟨_, rfl⟩
        have c0 : ∀ zw : Ext wr, zw.wd.cell? ⟨g, k, none⟩ = some (.int .u8 (mkB 1 (j : Int))) := fun zw => ((HB.out.trans (zw.low.mono HB.out.size)).cell (p := ⟨g, k, none⟩) hg).trans (by simpa [u8Row, mrkB] using HALL.out k (mrkB j) (by rw [hj, List.getElem?_append_right (by omega)]; exact marksB_at (by omega)) 0 _ rfl)
        have i1 : (l.length : Int) ≤ (k : Int) := by omega
        have i2 : (k : Int) < (l.length : Int) + 12 := by omega
        have d1 : decide (k < l.length) = false := by simpa using hlt
        have d2 : decide (l.length ≤ k) = true := by simpa using hlt
        have d3 : decide ((k : Int) < (l.length : Int)) = false := decide_eq_false (by omega)
        have d4 : decide ((l.length : Int) ≤ (k : Int)) = true := decide_eq_true i1
        have d5 : decide ((k : Int) < (l.length : Int) + 12) = true := decide_eq_true i2
        have w1 : IntKind.i64.wrap ((k : Int) - (l.length : Int)) = (j : Int) := by rw [IntWalk.i64_in _ (by omega)]; omega
        have m0 : (0 : Int) ≤ (j : Int) := by omega
        have m1 : (j : Int) ≤ 1000000 := by omega
        clear hlt hj
        go_upto_region 7 with fail
        refine wp_region_ext (by kernel_rfl) (by kernel_rfl) ?_
        repeat (go_big_quiet_step ((rename_i x5; have h5 := x5.low; first
          | (go_at_call 116; exact ext_of_same x5 (markByteAny 1 (j : Int) x5.wd (by omega) (by omega) m0 m1)))))
        refine wpQuiet_nil ?_
        intro _ hw'
        obtain ⟨x5, hw''⟩ := hw'
        subst hw''
        clear w1
        go_wp2_with fail
        go_roundw
        case rel => exact ⟨k + 1, by omega, by go_num, HB.out.trans (x5.low.mono HB.out.size)⟩
        case measure => simp [intOf]; omega
      · have d5 : decide ((k : Int) < (l.length : Int) + 12) = false := decide_eq_false (by omega)
        go_wp2_with fail
        go_ret
        exact ⟨rfl, HB.out⟩
end Go.Proofs.YtfglkpcboodllaaGreatDoor
/-
  limpetkit's LentEntries, KeptEntries, SameEntry: contracts.
-/
set_option linter.unusedVariables false
set_option linter.unusedSimpArgs false
namespace Go.Proofs.YtfglkpcboodllaaGreatDoor
open Go.RowKit

/-- What an entry is, but for where its bytes lie. -/
def keyE (x : Ent) : Int × Int × Int × List Int := (x.idx, x.trm, x.knd, x.bd)
theorem keyE_eq {x y : Ent} (h : keyE x = keyE y) : x.idx = y.idx ∧ x.trm = y.trm ∧ x.knd = y.knd ∧ x.bd = y.bd := by simpa [keyE] using h
theorem goodE_key {x y : Ent} (h : keyE x = keyE y) : goodE x = goodE y := by
  obtain ⟨h1, h2, h3, h4⟩ := keyE_eq h
  unfold goodE rangeE; rw [h1, h2, h3, h4]
theorem ofE_key {x y : Ent} (h : keyE x = keyE y) : ofE x = ofE y := by
  obtain ⟨h1, h2, h3, h4⟩ := keyE_eq h
  unfold ofE; rw [h1, h2, h3]
theorem stepE_key {x y : Ent} (h : keyE x = keyE y) (p : Idt) : stepE p x = stepE p y := by
  have hg := goodE_key h
  obtain ⟨h1, h2, h3, h4⟩ := keyE_eq h
  unfold stepE; rw [hg, h1, h2]
theorem folE_key : ∀ {l m : List Ent} (h : l.map keyE = m.map keyE) (p : Idt), folE p l = folE p m := by
  intro l
  induction l with
  | nil => intro m h p; cases m with | nil => rfl | cons _ _ => simp at h
  | cons x l ih =>
    intro m h p
    cases m with
    | nil => simp at h
    | cons y m =>
      simp only [List.map_cons, List.cons.injEq] at h
      simp only [folE]
      rw [stepE_key h.1 p, ofE_key h.1, ih h.2]
theorem lastE_key : ∀ {l m : List Ent} (h : l.map keyE = m.map keyE) (p : Idt), lastE p l = lastE p m := by
  intro l
  induction l with
  | nil => intro m h p; cases m with | nil => rfl | cons _ _ => simp at h
  | cons x l ih =>
    intro m h p
    cases m with
    | nil => simp at h
    | cons y m =>
      simp only [List.map_cons, List.cons.injEq] at h
      simp only [lastE]
      rw [ofE_key h.1, ih h.2]
theorem keys_length {l m : List Ent} (h : l.map keyE = m.map keyE) : l.length = m.length := by simpa using congrArg List.length h
theorem keys_at {l m : List Ent} (h : l.map keyE = m.map keyE) {i : Nat} {x : Ent} (hx : m[i]? = some x) : ∃ A c, l[i]? = some ⟨x.idx, x.trm, x.knd, A, c, x.bd⟩ := by
  have h1 : (l.map keyE)[i]? = (m.map keyE)[i]? := by rw [h]
  rw [List.getElem?_map, List.getElem?_map, hx] at h1
  cases hl : l[i]? with
  | none => rw [hl] at h1; simp at h1
  | some y =>
    rw [hl] at h1
    simp only [Option.map_some, Option.some.injEq] at h1
    obtain ⟨e1, e2, e3, e4⟩ := keyE_eq h1
    obtain ⟨a, b, c, d, f, g⟩ := y
    simp only at e1 e2 e3 e4
    subst e1 e2 e3 e4
    exact ⟨d, f, rfl⟩

theorem Lnt.block {α : Type} {k : Nat} {row : α → List Value} {ms l : List α} {B : Nat} {w w' : World} {b n c : Nat} (h : Lnt k row ms B w (.slice (some ⟨b, 0, none⟩) n c) l) (hb : w'.heap[b]? = w.heap[b]?) (hB : B ≤ w'.heap.size) : Lnt k row ms w'.heap.size w' (.slice (some ⟨b, 0, none⟩) n c) l := by
  obtain ⟨g, cap, hv, h1, h2, h3, h4⟩ := h
  simp only [Value.slice.injEq, Option.some.injEq, Addr.mk.injEq, and_true] at hv
  obtain ⟨rfl, rfl, rfl⟩ := hv
  exact ⟨b, c, rfl, h1, h2, by omega, fun i x hx j u hu => (World.cell?_of_block (a := ⟨b, i * k + j, none⟩) hb).trans (h4 i x hx j u hu)⟩

/-- An entry's bytes are lent, in a block of their own. -/
def BodIn (base : Nat) (v : Value) (w : World) (x : Ent) : Prop :=
  ∃ b, x.ba = some ⟨b, 0, none⟩ ∧ base ≤ b ∧ b < w.heap.size ∧ some b ≠ v.ownBlock ∧ Lnt 1 u8Row marksB w.heap.size w x.bv x.bd
theorem BodIn.step {base : Nat} {v v' : Value} {w w' : World} {x : Ent} (h : BodIn base v w x) (hk : ∀ b, b < w.heap.size → some b ≠ v.ownBlock → w'.heap[b]? = w.heap[b]?) (hs : w.heap.size ≤ w'.heap.size) (hv : ∀ b, b < w.heap.size → some b ≠ v.ownBlock → some b ≠ v'.ownBlock) : BodIn base v' w' x := by
  obtain ⟨b, h1, h2, h3, h4, h5⟩ := h
  refine ⟨b, h1, h2, by omega, hv b h3 h4, ?_⟩
  unfold Ent.bv at h5 ⊢
  rw [h1] at h5 ⊢
  exact h5.block (hk b h3 h4) hs

theorem entInfo : (Tryz.prog.info? 28).map (fun i => (i.zero, i.size, i.bytes)) = some (some (.agg #[.int .i64 0, .int .i64 0, .int .i64 0, .slice none 0 0]), 4, 48) := by kernel_rfl
def mrkE (i : Nat) : Ent := ⟨mkI 1 (i : Int), 0, 0, none, 0, []⟩
def marksE : List Ent := (List.range 12).map mrkE
theorem marksE_length : marksE.length = 12 := rfl
theorem marksE_at {i : Nat} (h : i < 12) : marksE[i]? = some (mrkE i) := by simp [marksE, h]
theorem marksE_more {i : Nat} (h : i < 12) : marksE.take (i + 1) = marksE.take i ++ [mrkE i] := take_at (marksE_at h)

set_option maxHeartbeats 1000000 in
theorem sameEntry (x : Ent) (A : Option Addr) (c : Nat) (w : World) (hx : Sl 1 u8Row w.heap.size w (.slice x.ba x.bd.length x.bc) x.bd) (hy : Sl 1 u8Row w.heap.size w (.slice A x.bd.length c) x.bd) :
    Calls Tryz.prog 90 #[.agg #[.int .i64 x.idx, .int .i64 x.trm, .int .i64 x.knd, .slice x.ba x.bd.length x.bc], .agg #[.int .i64 x.idx, .int .i64 x.trm, .int .i64 x.knd, .slice A x.bd.length c]] w fun e w' => e = .returned (.bool true) ∧ Below w.heap.size w w' := by
  have HX := Lib.hid ((hx.later (below_new w (.cells #[.int .i64 x.idx, .int .i64 x.trm, .int .i64 x.knd, .slice x.ba x.bd.length x.bc] 28))).later (below_new _ (.cells #[.int .i64 x.idx, .int .i64 x.trm, .int .i64 x.knd, .slice A x.bd.length c] 28)))
  have HY := Lib.hid ((hy.later (below_new w (.cells #[.int .i64 x.idx, .int .i64 x.trm, .int .i64 x.knd, .slice x.ba x.bd.length x.bc] 28))).later (below_new _ (.cells #[.int .i64 x.idx, .int .i64 x.trm, .int .i64 x.knd, .slice A x.bd.length c] 28)))
  clear hx hy
  go_enter Tryz.func90, Tryz.ntmps90
  go_wp2_with (go_at_call 69; refine (sameBytes x.bd _ _ _ HX.out HY.out).mono ?_; rintro e w2 ⟨rfl, n, rfl⟩)
  go_ret
  exact ⟨rfl, below_drewN (below_call (below_new _ _) (below_new _ _)) _⟩

set_option maxHeartbeats 1000000 in
theorem keptEntry (x : Ent) (A : Option Addr) (c : Nat) (w : World) (hx : Lnt 1 u8Row marksB w.heap.size w (.slice A x.bd.length c) x.bd) (hy : Sl 1 u8Row w.heap.size w (.slice x.ba x.bd.length x.bc) x.bd) (hn : x.bd.length ≤ 1000000) :
    Calls Tryz.prog 89 #[.agg #[.int .i64 x.idx, .int .i64 x.trm, .int .i64 x.knd, .slice A x.bd.length c], .agg #[.int .i64 x.idx, .int .i64 x.trm, .int .i64 x.knd, .slice x.ba x.bd.length x.bc]] w fun e w' => e = .returned (.bool true) ∧ Below w.heap.size w w' := by
  have HX := Lib.hid ((hx.later (below_new w (.cells #[.int .i64 x.idx, .int .i64 x.trm, .int .i64 x.knd, .slice A x.bd.length c] 28))).later (below_new _ (.cells #[.int .i64 x.idx, .int .i64 x.trm, .int .i64 x.knd, .slice x.ba x.bd.length x.bc] 28)))
  have HY := Lib.hid ((hy.later (below_new w (.cells #[.int .i64 x.idx, .int .i64 x.trm, .int .i64 x.knd, .slice A x.bd.length c] 28))).later (below_new _ (.cells #[.int .i64 x.idx, .int .i64 x.trm, .int .i64 x.knd, .slice x.ba x.bd.length x.bc] 28)))
  clear hx hy
  go_enter Tryz.func89, Tryz.ntmps89
  go_wp2_with (first
    | (go_at_call 90; refine (sameEntry ⟨x.idx, x.trm, x.knd, A, c, x.bd⟩ x.ba x.bc _ HX.out.sl HY.out).mono ?_; rintro e w2 ⟨rfl, hb2⟩; obtain ⟨pa, pb, P⟩ := boxes2 _ _ _ _ hb2; obtain ⟨ka, -, za⟩ := pa.facts; obtain ⟨kb, -, zb⟩ := pb.facts)
    | (go_at_call 72; refine (keptBytes x.bd _ _ _ (HX.out.later hb2) (HY.out.later hb2) hn).mono ?_; rintro e w3 ⟨rfl, hb3⟩))
  go_ret
  exact ⟨rfl, below_call P hb3⟩

set_option maxHeartbeats 1000000 in
theorem lentEntry (x : Ent) (w : World) (hx : Sl 1 u8Row w.heap.size w (.slice x.ba x.bd.length x.bc) x.bd) (hn : x.bd.length ≤ 1000000) :
    Calls Tryz.prog 77 #[.agg #[.int .i64 x.idx, .int .i64 x.trm, .int .i64 x.knd, .slice x.ba x.bd.length x.bc]] w fun e w' => ∃ g cp, e = .returned (.agg #[.int .i64 x.idx, .int .i64 x.trm, .int .i64 x.knd, .slice (some ⟨g, 0, none⟩) x.bd.length cp]) ∧ w.heap.size ≤ g ∧ g < w'.heap.size ∧ Lnt 1 u8Row marksB w'.heap.size w' (.slice (some ⟨g, 0, none⟩) x.bd.length cp) x.bd ∧ Below w.heap.size w w' := by
  have HX := Lib.hid ((hx.later (below_new w (.cells #[.int .i64 x.idx, .int .i64 x.trm, .int .i64 x.knd, .slice x.ba x.bd.length x.bc] 28))).later (below_new _ (.cells #[.int .i64 0, .int .i64 0, .int .i64 0, .slice none 0 0] 28)))
  clear hx
  go_enter Tryz.func77, Tryz.ntmps77
  go_wp2_with (go_at_call 62; refine (lentBytes x.bd _ _ HX.out hn).mono ?_; rintro e w2 ⟨g, cp, rfl, hg, hl, hb2⟩; obtain ⟨pa, pb, P⟩ := boxes2 _ _ _ _ hb2; obtain ⟨ka, fa, za⟩ := pa.facts; obtain ⟨kb, fb, zb⟩ := pb.facts)
  have hg2 : w.heap.size + 2 ≤ g := by simpa using hg
  refine bodyPost_ret (v := .agg #[.int .i64 x.idx, .int .i64 x.trm, .int .i64 x.knd, .slice (some ⟨g, 0, none⟩) x.bd.length cp]) (by simp [results, Tryz.results77, go_sem, ka, kb]) rfl ⟨g, cp, rfl, by omega, ?_, ?_, ?_⟩
  · obtain ⟨g', c', hv, -, -, hlt, -⟩ := hl
    simp only [Value.slice.injEq, Option.some.injEq, Addr.mk.injEq, and_true] at hv
    obtain ⟨rfl, -⟩ := hv
    simpa using hlt
  · refine hl.block ?_ (by simp)
    repeat refine (Below.heap_setCell _ _ _ _ (by simp; omega)).trans ?_
    rfl
  · repeat refine below_set ?_ (by simp)
    exact P

/-- What LentEntries tells. -/
def LentsPost (l : List Ent) (w : World) (e : Ending) (w' : World) : Prop :=
  ∃ g cp l', e = .returned (.slice (some ⟨g, 0, none⟩) l.length cp) ∧ w.heap.size ≤ g ∧ l'.map keyE = l.map keyE ∧ Lnt 4 entRow marksE w'.heap.size w' (.slice (some ⟨g, 0, none⟩) l.length cp) l' ∧ (∀ x ∈ l', Lnt 1 u8Row marksB w'.heap.size w' x.bv x.bd) ∧ Below w.heap.size w w'
theorem lentsPost_mk {l l' : List Ent} {g cp : Nat} {w w' : World} (h1 : w.heap.size ≤ g) (h2 : l'.map keyE = l.map keyE) (h3 : Lnt 4 entRow marksE w'.heap.size w' (.slice (some ⟨g, 0, none⟩) l'.length cp) l') (h4 : ∀ x ∈ l', BodIn w.heap.size (.slice (some ⟨g, 0, none⟩) (l'.length + 12) cp) w' x) (h5 : Below w.heap.size w w') :
    LentsPost l w (.returned (.slice (some ⟨g, 0, none⟩) l.length cp)) w' :=
  ⟨g, cp, l', rfl, h1, h2, by rw [← keys_length h2]; exact h3, fun x hx => (h4 x hx).choose_spec.2.2.2.2, h5⟩
theorem own_lt {g n c n0 : Nat} {l : List Ent} {e : TypeId} {base : Nat} {w : World} (h : Own 4 entRow e base w (.slice (some ⟨g, 0, none⟩) n c) l) (hn : w.heap.size ≤ n0) : some n0 ≠ (Value.slice (some ⟨g, 0, none⟩) n c).ownBlock := by
  intro he
  have := (World.ownsRow.lt h n0 he.symm).2
  omega

set_option maxRecDepth 100000 in
set_option maxHeartbeats 2000000 in
theorem lentEntries (l : List Ent) (v : Value) (w : World) (h : Sl 4 entRow w.heap.size w v l) (hin : ∀ x ∈ l, EntIn w.heap.size w x ∧ x.bd.length ≤ 1000000) (hn : l.length ≤ 1000000) :
    Calls Tryz.prog 15 #[v] w (LentsPost l w) := by
  obtain ⟨A, cap, rfl, hlc, hcm, -, hA⟩ := h
  have HA := Lib.hid hA
  have HIN := Lib.hid hin
  clear hcm hA hin
  go_enter Tryz.func15, Tryz.ntmps15
  go_wp2_with (at_make; refine wpList_make_rows _ rfl _ _ 31 rfl entRow w.heap.size 28 _ 4 48 Tryz.underlying31 entInfo .i64 .i64 _ (l.length + 12) rfl rfl (by omega) (by omega) (by omega) (Nat.le_refl _) ?_; intro w0 hown0 hb0)
  go_loopw [3, 4] (fun v i wr => ∃ (k g n c : Nat) (m : List Ent), k ≤ l.length ∧ i = .int .i64 k ∧ v = .slice (some ⟨g, 0, none⟩) n c ∧ m.map keyE = (l.take k).map keyE ∧ Own 4 entRow 28 w.heap.size wr (.slice (some ⟨g, 0, none⟩) n c) m ∧ (∀ x ∈ m, BodIn w.heap.size (.slice (some ⟨g, 0, none⟩) n c) wr x) ∧ Below w.heap.size w wr) (fun _ i _ => l.length - (intOf i).toNat)
  case atStart => exact ⟨0, _, _, _, [], by omega, rfl, rfl, rfl, hown0, (fun x hx => by cases hx), hb0⟩
  case round =>
    clear hown0 hb0
    obtain ⟨k, g, n, c, m, hk, rfl, rfl, hm, hown, hbod, hB⟩ := hrel
    have hml : m.length = k := by have := keys_length hm; rw [List.length_take] at this; omega
    have HM := Lib.hid hm
    have HO := Lib.hid hown
    have HD := Lib.hid hbod
    by_cases hlt : k < l.length
    · obtain ⟨b, off, rfl, hb, hcell⟩ := HA.out (by intro h; subst h; simp at hlt)
      obtain ⟨x, hx⟩ : ∃ x, l[k]? = some x := ⟨_, List.getElem?_eq_getElem hlt⟩
      have c0 := (hB.cell (p := ⟨b, off + k * 4, none⟩) hb).trans (hcell k x hx 0 _ rfl)
      have c1 := (hB.cell (p := ⟨b, off + k * 4 + 1, none⟩) hb).trans (hcell k x hx 1 _ rfl)
      have c2 := (hB.cell (p := ⟨b, off + k * 4 + 2, none⟩) hb).trans (hcell k x hx 2 _ rfl)
      have c3 := (hB.cell (p := ⟨b, off + k * 4 + 3, none⟩) hb).trans (hcell k x hx 3 _ rfl)
      obtain ⟨xi, xn⟩ := HIN.out x (List.mem_of_getElem? hx)
      have HE := Lib.hid ((xi.below hB).more hB.size)
      have hz := hB.size
      have hbr : b < wr.heap.size := by omega
      have i0 : (0 : Int) ≤ (k : Int) := by omega
      have i1 : (k : Int) < (l.length : Int) := by omega
      have d0 : decide ((k : Int) < (l.length : Int)) = true := decide_eq_true i1
      have d0' : decide (k < l.length) = true := decide_eq_true hlt
      have HX := Lib.hid hx
      have HB := Lib.hid hB
      clear hcell hx hB hm hown hbod xi
      go_wp2_with (first
        | (go_at_call 77; refine (lentEntry x _ HE.out.1 xn).mono ?_; rintro e w5 ⟨g5, cp5, rfl, hg5, hg6, hl5, hb5⟩; have h5z := hb5.size)
        | (at_builtin; refine wpList_append_keep1 _ rfl (.tmp 22) (.tmp 24) 31 rfl w.heap.size 28 _ 4 48 Tryz.underlying31 entInfo rfl (Nat.succ_pos 3) entRow entRow_length entRow_one m _ rfl (HO.out.later (below_call hb5 (below_new _ _))) ⟨x.idx, x.trm, x.knd, some ⟨g5, 0, none⟩, cp5, x.bd⟩ _ rfl 28 _ rfl (by simp) (by omega) (by omega) (by simp; omega) ?_; intro g7 c7 w7 p1 p2 p3 p4 p5 p6 p7))
      have B5 := below_new w5 (.cells #[.int .i64 x.idx, .int .i64 x.trm, .int .i64 x.knd, .slice (some ⟨g5, 0, none⟩) x.bd.length cp5] 28)
      have z5 := B5.size
      have hsz := World.size_alloc w5 (.cells #[.int .i64 x.idx, .int .i64 x.trm, .int .i64 x.knd, .slice (some ⟨g5, 0, none⟩) x.bd.length cp5] 28)
      rw [hml] at p1
      have HP := Lib.hid p1
      have HV : Hid (∀ b, b < w5.heap.size → some b ≠ (Value.slice (some ⟨g, 0, none⟩) n c).ownBlock → some b ≠ (Value.slice (some ⟨g7, 0, none⟩) (k + 1) c7).ownBlock) := by
        intro b hb hne he
        have e1 : b = g7 := Option.some.inj he
        rcases p5 with h | h
        · have e2 : g = g7 := Option.some.inj h
          exact hne (by rw [e1, ← e2]; rfl)
        · omega
      have HK : Hid (∀ b, b < w5.heap.size → some b ≠ (Value.slice (some ⟨g, 0, none⟩) n c).ownBlock → w7.heap[b]? = w5.heap[b]?) := fun b hb hne => (p4 b (Nat.lt_of_lt_of_le hb z5) hne).trans (B5.block b hb)
      have hz7 : w5.heap.size ≤ w7.heap.size := by omega
      have HB7 := Lib.hid (show Below w.heap.size w w7 from (HB.out.trans ((below_call hb5 (B5.mono (Nat.le_refl _))).mono hz)).trans p3)
      have HD7 : Hid (∀ y ∈ m ++ [⟨x.idx, x.trm, x.knd, some ⟨g5, 0, none⟩, cp5, x.bd⟩], BodIn w.heap.size (.slice (some ⟨g7, 0, none⟩) (k + 1) c7) w7 y) := by
        intro y hy
        rcases List.mem_append.1 hy with hy | hy
        · have h1 : BodIn w.heap.size (.slice (some ⟨g, 0, none⟩) n c) w5 y := (HD.out y hy).step (fun b hb hne => hb5.block b hb) h5z (fun b hb hne => hne)
          exact h1.step HK.out hz7 HV.out
        · rw [List.mem_singleton.1 hy]
          have h1 : BodIn w.heap.size (.slice (some ⟨g, 0, none⟩) n c) w5 ⟨x.idx, x.trm, x.knd, some ⟨g5, 0, none⟩, cp5, x.bd⟩ := ⟨g5, rfl, by omega, hg6, own_lt HO.out hg5, hl5⟩
          exact h1.step HK.out hz7 HV.out
      have HM7 := Lib.hid (show (m ++ [(⟨x.idx, x.trm, x.knd, some ⟨g5, 0, none⟩, cp5, x.bd⟩ : Ent)]).map keyE = (l.take (k + 1)).map keyE by rw [take_at HX.out, List.map_append, List.map_append, HM.out]; rfl)
      clear p1 p2 p3 p4 p5 p6 p7 B5 hsz
      go_roundw
      case rel => exact ⟨k + 1, g7, _, c7, _, by omega, by go_num, rfl, HM7.out, HP.out, HD7.out, HB7.out⟩
      case measure => simp [intOf]; omega
    · have hk' : k = l.length := by omega
      have d0 : decide ((k : Int) < (l.length : Int)) = false := decide_eq_false (by omega)
      have d0' : decide (k < l.length) = false := decide_eq_false hlt
      have HM := Lib.hid (show m.map keyE = l.map keyE by rw [hm, hk', List.take_length])
      have HB := Lib.hid hB
      have hml2 : m.length ≤ 1000000 := by omega
      clear hB hm hown hbod hk' hml
      go_wp2_with fail
      go_loopw [3, 6] (fun v i wx => ∃ (j g n c : Nat), j ≤ 12 ∧ i = .int .i64 j ∧ v = .slice (some ⟨g, 0, none⟩) n c ∧ n = m.length + j ∧ Own 4 entRow 28 w.heap.size wx (.slice (some ⟨g, 0, none⟩) n c) (m ++ marksE.take j) ∧ (∀ x ∈ m, BodIn w.heap.size (.slice (some ⟨g, 0, none⟩) n c) wx x) ∧ Below w.heap.size w wx) (fun _ i _ => 12 - (intOf i).toNat)
      case atStart =>
        refine ⟨0, g, n, c, by omega, rfl, rfl, ?_, by simpa using HO.out, HD.out, HB.out⟩
        obtain ⟨_, cap2, hv2, -, -, -, -⟩ := HO.out.form' (by simp)
        simp only [Value.slice.injEq] at hv2
        omega
      case round =>
        clear HO HD HB
        obtain ⟨j, g, n, c, hj, rfl, rfl, rfl, hown, hbod, hB⟩ := hrel
        have HO := Lib.hid hown
        have HD := Lib.hid hbod
        by_cases hlt2 : j < 12
        · have HB := Lib.hid hB
          have hz := hB.size
          obtain ⟨lp, hlp⟩ : ∃ lp, lp = m ++ marksE.take j := ⟨_, rfl⟩
          have HLP := Lib.hid hlp
          have hlen' : lp.length = m.length + j := by rw [hlp, List.length_append, List.length_take, marksE_length]; omega
          have HLN := Lib.hid hlen'
          have hle : lp.length ≤ 1000012 := by omega
          rw [← hlp] at HO
          clear hlp hlen'
          have i0 : (0 : Int) ≤ (j : Int) := by omega
          have i1 : (j : Int) < 12 := by omega
          have d1 : decide ((j : Int) < 12) = true := decide_eq_true i1
          clear hown hbod hB
          go_wp2_with (first
            | (go_at_call 78; refine (markEntryAny 1 j _ (by omega) (by omega) (by omega) (by omega)).mono ?_; rintro e w5 ⟨rfl, hb5⟩; have h5z := hb5.size)
            | (at_builtin; refine wpList_append_keep1 _ rfl (.tmp 30) (.tmp 33) 31 rfl w.heap.size 28 _ 4 48 Tryz.underlying31 entInfo rfl (Nat.succ_pos 3) entRow entRow_length entRow_one lp _ rfl (HO.out.later hb5) (mrkE j) _ rfl 28 _ rfl rfl (by omega) (by omega) (by omega) ?_; intro g7 c7 w7 p1 p2 p3 p4 p5 p6 p7))
          have HP := Lib.hid (show Own 4 entRow 28 w.heap.size w7 (.slice (some ⟨g7, 0, none⟩) (lp.length + 1) c7) (m ++ marksE.take (j + 1)) by rw [marksE_more hlt2, ← List.append_assoc, ← HLP.out]; exact p1)
          have HB7 := Lib.hid (show Below w.heap.size w w7 from (HB.out.trans (hb5.mono hz)).trans p3)
          have HD7 : Hid (∀ y ∈ m, BodIn w.heap.size (.slice (some ⟨g7, 0, none⟩) (lp.length + 1) c7) w7 y) := by
            intro y hy
            refine (HD.out y hy).step (fun b hb hne => (p4 b (by omega) hne).trans (hb5.block b hb)) (by omega) ?_
            intro b hb hne he
            have e1 : b = g7 := Option.some.inj he
            rcases p5 with h | h
            · have e2 : g = g7 := Option.some.inj h
              exact hne (by rw [e1, ← e2]; rfl)
            · omega
          clear p1 p2 p3 p4 p5 p6 p7
          go_roundw
          case rel => exact ⟨j + 1, g7, _, c7, by omega, by go_num, rfl, by have := HLN.out; omega, HP.out, HD7.out, HB7.out⟩
          case measure => simp [intOf]; omega
        · obtain rfl : j = 12 := by omega
          have HL : Hid (Lnt 4 entRow marksE wr.heap.size wr (.slice (some ⟨g, 0, none⟩) m.length c) m) := Own.lnt (ms := marksE.take 12) hown entRow_length (by decide)
          obtain ⟨g', c', e', q1, q2, q3, q4⟩ := hown.form' (by simp)
          simp only [Value.slice.injEq, Option.some.injEq, Addr.mk.injEq, and_true] at e'
          obtain ⟨rfl, -, rfl⟩ := e'
          have HB := Lib.hid hB
          have hlen : (m ++ marksE.take 12).length = m.length + 12 := by rw [List.length_append]; rfl
          rw [hlen] at q1
          have hll := keys_length HM.out
          have q5 : l.length ≤ c := by omega
          clear hown hbod hB hll
          go_wp2_with fail
          go_ret
          exact lentsPost_mk q3 HM.out HL.out HD.out HB.out

end Go.Proofs.YtfglkpcboodllaaGreatDoor
