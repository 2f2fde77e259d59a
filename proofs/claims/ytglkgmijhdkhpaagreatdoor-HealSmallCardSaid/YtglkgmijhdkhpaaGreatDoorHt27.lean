/-
  Merged: KitEnts, KitEnts2.
-/
import Derived.Test.YtglkgmijhdkhpaaGreatDoorHt26
/-
  limpetkit's LentEntries, KeptEntries, SameEntry: contracts.
-/
set_option linter.unusedVariables false
set_option linter.unusedSimpArgs false
namespace Go.Proofs.YtglkgmijhdkhpaaGreatDoor
open Go.RowKit

/-- What an entry is, but for where its bytes lie. -/
def keyE (x : Ent) : Int × Int × Int × List Int := (x.idx, x.trm, x.knd, x.bd)
theorem keyE_eq {x y : Ent} (h : keyE x = keyE y) : x.idx = y.idx ∧ x.trm = y.trm ∧ x.knd = y.knd ∧ x.bd = y.bd := by simpa [keyE] using h
theorem goodE_key {x y : Ent} (h : keyE x = keyE y) : goodE x = goodE y := by
  obtain ⟨h1, h2, h3, h4⟩ := keyE_eq h
  unfold goodE rangeE; rw [h1, h2, h3, h4]
theorem ofE_key {x y : Ent} (h : keyE x = keyE y) : ofE x = ofE y := by
  obtain ⟨h1, h2, h3, h4⟩ := keyE_eq h
  unfold ofE; rw [h1, h2, h3]
theorem stepE_key {x y : Ent} (h : keyE x = keyE y) (p : Idt) : stepE p x = stepE p y := by
  have hg := goodE_key h
  obtain ⟨h1, h2, h3, h4⟩ := keyE_eq h
  unfold stepE; rw [hg, h1, h2]
theorem folE_key : ∀ {l m : List Ent} (h : l.map keyE = m.map keyE) (p : Idt), folE p l = folE p m := by
  intro l
  induction l with
  | nil => intro m h p; cases m with | nil => rfl | cons _ _ => simp at h
  | cons x l ih =>
    intro m h p
    cases m with
    | nil => simp at h
    | cons y m =>
      simp only [List.map_cons, List.cons.injEq] at h
      simp only [folE]
      rw [stepE_key h.1 p, ofE_key h.1, ih h.2]
theorem lastE_key : ∀ {l m : List Ent} (h : l.map keyE = m.map keyE) (p : Idt), lastE p l = lastE p m := by
  intro l
  induction l with
  | nil => intro m h p; cases m with | nil => rfl | cons _ _ => simp at h
  | cons x l ih =>
    intro m h p
    cases m with
    | nil => simp at h
    | cons y m =>
      simp only [List.map_cons, List.cons.injEq] at h
      simp only [lastE]
      rw [ofE_key h.1, ih h.2]
theorem keys_length {l m : List Ent} (h : l.map keyE = m.map keyE) : l.length = m.length := by simpa using congrArg List.length h
theorem keys_at {l m : List Ent} (h : l.map keyE = m.map keyE) {i : Nat} {x : Ent} (hx : m[i]? = some x) : ∃ A c, l[i]? = some ⟨x.idx, x.trm, x.knd, A, c, x.bd⟩ := by
  have h1 : (l.map keyE)[i]? = (m.map keyE)[i]? := by rw [h]
  rw [List.getElem?_map, List.getElem?_map, hx] at h1
  cases hl : l[i]? with
  | none => rw [hl] at h1; simp at h1
  | some y =>
    rw [hl] at h1
    simp only [Option.map_some, Option.some.injEq] at h1
    obtain ⟨e1, e2, e3, e4⟩ := keyE_eq h1
    obtain ⟨a, b, c, d, f, g⟩ := y
    simp only at e1 e2 e3 e4
    subst e1 e2 e3 e4
    exact ⟨d, f, rfl⟩

theorem Lnt.block {α : Type} {k : Nat} {row : α → List Value} {ms l : List α} {B : Nat} {w w' : World} {b n c : Nat} (h : Lnt k row ms B w (.slice (some ⟨b, 0, none⟩) n c) l) (hb : w'.heap[b]? = w.heap[b]?) (hB : B ≤ w'.heap.size) : Lnt k row ms w'.heap.size w' (.slice (some ⟨b, 0, none⟩) n c) l := by
  obtain ⟨g, cap, hv, h1, h2, h3, h4⟩ := h
  simp only [Value.slice.injEq, Option.some.injEq, Addr.mk.injEq, and_true] at hv
  obtain ⟨rfl, rfl, rfl⟩ := hv
  exact ⟨b, c, rfl, h1, h2, by omega, fun i x hx j u hu => (World.cell?_of_block (a := ⟨b, i * k + j, none⟩) hb).trans (h4 i x hx j u hu)⟩

/-- An entry's bytes are lent, in a block of their own. -/
def BodIn (base : Nat) (v : Value) (w : World) (x : Ent) : Prop :=
  ∃ b, x.ba = some ⟨b, 0, none⟩ ∧ base ≤ b ∧ b < w.heap.size ∧ some b ≠ v.ownBlock ∧ Lnt 1 u8Row marksB w.heap.size w x.bv x.bd
theorem BodIn.step {base : Nat} {v v' : Value} {w w' : World} {x : Ent} (h : BodIn base v w x) (hk : ∀ b, b < w.heap.size → some b ≠ v.ownBlock → w'.heap[b]? = w.heap[b]?) (hs : w.heap.size ≤ w'.heap.size) (hv : ∀ b, b < w.heap.size → some b ≠ v.ownBlock → some b ≠ v'.ownBlock) : BodIn base v' w' x := by
  obtain ⟨b, h1, h2, h3, h4, h5⟩ := h
  refine ⟨b, h1, h2, by omega, hv b h3 h4, ?_⟩
  unfold Ent.bv at h5 ⊢
  rw [h1] at h5 ⊢
  exact h5.block (hk b h3 h4) hs

theorem entInfo : (Tryz.prog.info? 54).map (fun i => (i.zero, i.size, i.bytes)) = some (some (.agg #[.int .i64 0, .int .i64 0, .int .i64 0, .slice none 0 0]), 4, 48) := by kernel_rfl
def mrkE (i : Nat) : Ent := ⟨mkI 1 (i : Int), 0, 0, none, 0, []⟩
def marksE : List Ent := (List.range 12).map mrkE
theorem marksE_length : marksE.length = 12 := rfl
theorem marksE_at {i : Nat} (h : i < 12) : marksE[i]? = some (mrkE i) := by simp [marksE, h]
theorem marksE_more {i : Nat} (h : i < 12) : marksE.take (i + 1) = marksE.take i ++ [mrkE i] := take_at (marksE_at h)

set_option maxHeartbeats 1000000 in
theorem sameEntry (x : Ent) (A : Option Addr) (c : Nat) (w : World) (hx : Sl 1 u8Row w.heap.size w (.slice x.ba x.bd.length x.bc) x.bd) (hy : Sl 1 u8Row w.heap.size w (.slice A x.bd.length c) x.bd) :
    Calls Tryz.prog 40 #[.agg #[.int .i64 x.idx, .int .i64 x.trm, .int .i64 x.knd, .slice x.ba x.bd.length x.bc], .agg #[.int .i64 x.idx, .int .i64 x.trm, .int .i64 x.knd, .slice A x.bd.length c]] w fun e w' => e = .returned (.bool true) ∧ Below w.heap.size w w' := by
  have HX := Lib.hid ((hx.later (below_new w (.cells #[.int .i64 x.idx, .int .i64 x.trm, .int .i64 x.knd, .slice x.ba x.bd.length x.bc] 54))).later (below_new _ (.cells #[.int .i64 x.idx, .int .i64 x.trm, .int .i64 x.knd, .slice A x.bd.length c] 54)))
  have HY := Lib.hid ((hy.later (below_new w (.cells #[.int .i64 x.idx, .int .i64 x.trm, .int .i64 x.knd, .slice x.ba x.bd.length x.bc] 54))).later (below_new _ (.cells #[.int .i64 x.idx, .int .i64 x.trm, .int .i64 x.knd, .slice A x.bd.length c] 54)))
  clear hx hy
  go_enter Tryz.func40, Tryz.ntmps40
  go_wp2_with (go_at_call 75; refine (sameBytes x.bd _ _ _ HX.out HY.out).mono ?_; rintro e w2 ⟨rfl, n, rfl⟩)
  go_ret
  exact ⟨rfl, below_drewN (below_call (below_new _ _) (below_new _ _)) _⟩

set_option maxHeartbeats 1000000 in
theorem keptEntry (x : Ent) (A : Option Addr) (c : Nat) (w : World) (hx : Lnt 1 u8Row marksB w.heap.size w (.slice A x.bd.length c) x.bd) (hy : Sl 1 u8Row w.heap.size w (.slice x.ba x.bd.length x.bc) x.bd) (hn : x.bd.length ≤ 1000000) :
    Calls Tryz.prog 51 #[.agg #[.int .i64 x.idx, .int .i64 x.trm, .int .i64 x.knd, .slice A x.bd.length c], .agg #[.int .i64 x.idx, .int .i64 x.trm, .int .i64 x.knd, .slice x.ba x.bd.length x.bc]] w fun e w' => e = .returned (.bool true) ∧ Below w.heap.size w w' := by
  have HX := Lib.hid ((hx.later (below_new w (.cells #[.int .i64 x.idx, .int .i64 x.trm, .int .i64 x.knd, .slice A x.bd.length c] 54))).later (below_new _ (.cells #[.int .i64 x.idx, .int .i64 x.trm, .int .i64 x.knd, .slice x.ba x.bd.length x.bc] 54)))
  have HY := Lib.hid ((hy.later (below_new w (.cells #[.int .i64 x.idx, .int .i64 x.trm, .int .i64 x.knd, .slice A x.bd.length c] 54))).later (below_new _ (.cells #[.int .i64 x.idx, .int .i64 x.trm, .int .i64 x.knd, .slice x.ba x.bd.length x.bc] 54)))
  clear hx hy
  go_enter Tryz.func51, Tryz.ntmps51
  go_wp2_with (first
    | (go_at_call 40; refine (sameEntry ⟨x.idx, x.trm, x.knd, A, c, x.bd⟩ x.ba x.bc _ HX.out.sl HY.out).mono ?_; rintro e w2 ⟨rfl, hb2⟩; obtain ⟨pa, pb, P⟩ := boxes2 _ _ _ _ hb2; obtain ⟨ka, -, za⟩ := pa.facts; obtain ⟨kb, -, zb⟩ := pb.facts)
    | (go_at_call 78; refine (keptBytes x.bd _ _ _ (HX.out.later hb2) (HY.out.later hb2) hn).mono ?_; rintro e w3 ⟨rfl, hb3⟩))
  go_ret
  exact ⟨rfl, below_call P hb3⟩

set_option maxHeartbeats 1000000 in
theorem lentEntry (x : Ent) (w : World) (hx : Sl 1 u8Row w.heap.size w (.slice x.ba x.bd.length x.bc) x.bd) (hn : x.bd.length ≤ 1000000) :
    Calls Tryz.prog 29 #[.agg #[.int .i64 x.idx, .int .i64 x.trm, .int .i64 x.knd, .slice x.ba x.bd.length x.bc]] w fun e w' => ∃ g cp, e = .returned (.agg #[.int .i64 x.idx, .int .i64 x.trm, .int .i64 x.knd, .slice (some ⟨g, 0, none⟩) x.bd.length cp]) ∧ w.heap.size ≤ g ∧ g < w'.heap.size ∧ Lnt 1 u8Row marksB w'.heap.size w' (.slice (some ⟨g, 0, none⟩) x.bd.length cp) x.bd ∧ Below w.heap.size w w' := by
  have HX := Lib.hid ((hx.later (below_new w (.cells #[.int .i64 x.idx, .int .i64 x.trm, .int .i64 x.knd, .slice x.ba x.bd.length x.bc] 54))).later (below_new _ (.cells #[.int .i64 0, .int .i64 0, .int .i64 0, .slice none 0 0] 54)))
  clear hx
  go_enter Tryz.func29, Tryz.ntmps29
  go_wp2_with (go_at_call 56; refine (lentBytes x.bd _ _ HX.out hn).mono ?_; rintro e w2 ⟨g, cp, rfl, hg, hl, hb2⟩; obtain ⟨pa, pb, P⟩ := boxes2 _ _ _ _ hb2; obtain ⟨ka, fa, za⟩ := pa.facts; obtain ⟨kb, fb, zb⟩ := pb.facts)
  have hg2 : w.heap.size + 2 ≤ g := by simpa using hg
  refine bodyPost_ret (v := .agg #[.int .i64 x.idx, .int .i64 x.trm, .int .i64 x.knd, .slice (some ⟨g, 0, none⟩) x.bd.length cp]) (by simp [results, Tryz.results29, go_sem, ka, kb]) rfl ⟨g, cp, rfl, by omega, ?_, ?_, ?_⟩
  · obtain ⟨g', c', hv, -, -, hlt, -⟩ := hl
    simp only [Value.slice.injEq, Option.some.injEq, Addr.mk.injEq, and_true] at hv
    obtain ⟨rfl, -⟩ := hv
    simpa using hlt
  · refine hl.block ?_ (by simp)
    repeat refine (Below.heap_setCell _ _ _ _ (by simp; omega)).trans ?_
    rfl
  · repeat refine below_set ?_ (by simp)
    exact P

/-- What LentEntries tells. -/
def LentsPost (l : List Ent) (w : World) (e : Ending) (w' : World) : Prop :=
  ∃ g cp l', e = .returned (.slice (some ⟨g, 0, none⟩) l.length cp) ∧ w.heap.size ≤ g ∧ l'.map keyE = l.map keyE ∧ Lnt 4 entRow marksE w'.heap.size w' (.slice (some ⟨g, 0, none⟩) l.length cp) l' ∧ (∀ x ∈ l', Lnt 1 u8Row marksB w'.heap.size w' x.bv x.bd) ∧ Below w.heap.size w w'
theorem lentsPost_mk {l l' : List Ent} {g cp : Nat} {w w' : World} (h1 : w.heap.size ≤ g) (h2 : l'.map keyE = l.map keyE) (h3 : Lnt 4 entRow marksE w'.heap.size w' (.slice (some ⟨g, 0, none⟩) l'.length cp) l') (h4 : ∀ x ∈ l', BodIn w.heap.size (.slice (some ⟨g, 0, none⟩) (l'.length + 12) cp) w' x) (h5 : Below w.heap.size w w') :
    LentsPost l w (.returned (.slice (some ⟨g, 0, none⟩) l.length cp)) w' :=
  ⟨g, cp, l', rfl, h1, h2, by rw [← keys_length h2]; exact h3, fun x hx => (h4 x hx).choose_spec.2.2.2.2, h5⟩
theorem own_lt {g n c n0 : Nat} {l : List Ent} {e : TypeId} {base : Nat} {w : World} (h : Own 4 entRow e base w (.slice (some ⟨g, 0, none⟩) n c) l) (hn : w.heap.size ≤ n0) : some n0 ≠ (Value.slice (some ⟨g, 0, none⟩) n c).ownBlock := by
  intro he
  have := (World.ownsRow.lt h n0 he.symm).2
  omega

end Go.Proofs.YtglkgmijhdkhpaaGreatDoor
/-
  limpetkit's KeptEntries: contract.
-/
set_option linter.unusedVariables false
set_option linter.unusedSimpArgs false
namespace Go.Proofs.YtglkgmijhdkhpaaGreatDoor
open Go.RowKit
end Go.Proofs.YtglkgmijhdkhpaaGreatDoor
