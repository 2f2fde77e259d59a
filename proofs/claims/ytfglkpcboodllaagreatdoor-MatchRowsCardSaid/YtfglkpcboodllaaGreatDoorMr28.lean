/-
  limpetkit's bag: what is put into it; whether all lies apart: contracts.
-/
import Derived.Test.YtfglkpcboodllaaGreatDoorMr26
import Derived.Test.YtfglkpcboodllaaGreatDoorMr27
set_option linter.unusedVariables false
set_option linter.unusedSimpArgs false
namespace Go.Proofs.YtfglkpcboodllaaGreatDoor
open Go.RowKit

/-- A slice value, as a row of one cell. -/
abbrev Sv := Option Addr × Nat × Nat
def Sv.v (x : Sv) : Value := .slice x.1 x.2.1 x.2.2
def sRow (x : Sv) : List Value := [.slice x.1 x.2.1 x.2.2]
theorem sRow_length (x : Sv) : (sRow x).length = 1 := rfl
theorem sRow_one (x : Sv) : ∀ u ∈ sRow x, u.oneCell' = true := by
  intro u hu; simp [sRow] at hu; rcases hu with rfl; rfl
def bagNil : Array Value := #[nilS, nilS, nilS, nilS, nilS, nilS, nilS, nilS, nilS, nilS, nilS, nilS, nilS, nilS, nilS]
theorem bag_set {i : Nat} (cs : Array Value) (v : Value) (h : i < cs.size) : (cs.setIfInBounds i v)[i]? = some v := by simp [h]

theorem svInfoInts : (Tryz.prog.info? 22).map (fun i => (i.zero, i.size, i.bytes)) = some (some nilS, 1, 24) := by kernel_rfl
set_option maxHeartbeats 1000000 in
/-- A list is put into the bag. -/
theorem putInts (gb base : Nat) (cs : Array Value) (A0 : Option Addr) (n0 c0 : Nat) (x : Sv) (L : List Sv) (w : World) (hx : Box w gb cs 138) (hi : cs[2]? = some (.slice A0 n0 c0)) (ho : Own 1 sRow 22 base w (.slice A0 n0 c0) L) (hne : blkH (.slice A0 n0 c0) ≠ some gb) (hn : L.length ≤ 100000) (hB : base ≤ w.heap.size) (hg : base ≤ gb) :
    Calls Tryz.prog 118 #[.pointer (some ⟨gb, 0, none⟩), .slice x.1 x.2.1 x.2.2] w fun e w' => e = .returned (.tuple #[]) ∧ ∃ g cap, Box w' gb (cs.setIfInBounds 2 (.slice (some ⟨g, 0, none⟩) (L.length + 1) cap)) 138 ∧ Own 1 sRow 22 base w' (.slice (some ⟨g, 0, none⟩) (L.length + 1) cap) (L ++ [x]) ∧ g ≠ gb ∧ Below base w w' ∧ w.heap.size ≤ w'.heap.size ∧ (∀ b, b < w.heap.size → b ≠ gb → some b ≠ blkH (.slice A0 n0 c0) → w'.heap[b]? = w.heap[b]?) ∧ (blkH (.slice A0 n0 c0) = some g ∨ w.heap.size < g) := by
  have HX := Lib.hid hx
  have HO := Lib.hid ho
  have HNE := Lib.hid hne
  have HI := Lib.hid hi
  have hgs : gb < w.heap.size := hx.lt
  have kz : w.cell? ⟨gb, 2, none⟩ = some (.slice A0 n0 c0) := (hx.cell 2).trans hi
  have fz : ∀ i, w.frozen? ⟨gb, i, none⟩ = false := hx.free
  clear hx ho hne hi
  go_enter Tryz.func118, Tryz.ntmps118
  go_wp2_with (at_builtin; refine wpList_append_keepH1 _ rfl (.tmp 8) (.tmp 10) 104 rfl base 22 _ 1 24 Tryz.underlying104 svInfoInts rfl (Nat.succ_pos 0) sRow sRow_length sRow_one L _ rfl HO.out.h x _ rfl 22 _ rfl rfl (by omega) (by omega) hB ?_; intro g7 c7 w7 p1 p2 p3 p4 p5 p6 p7; have HP1 := Lib.hid p1; have HP3 := Lib.hid p3; have HP4 := Lib.hid p4; have HX7 := Lib.hid (show Box w7 gb cs 138 from (p4 gb hgs (fun he => HNE.out he.symm)).trans HX.out); have fz7 : ∀ i, w7.frozen? ⟨gb, i, none⟩ = false := HX7.out.free; have kz7 : w7.cell? ⟨gb, 2, none⟩ = some (.slice A0 n0 c0) := (HX7.out.cell 2).trans HI.out; clear p1 p2 p3 p4)
  go_end0
  have hgb : g7 ≠ gb := by
    rcases p5 with h | h
    · intro he; subst he; exact HNE.out h
    · omega
  refine ⟨rfl, g7, c7, HX7.out.set_ 2 _, ?_, hgb, below_set HP3.out hg, by simp; omega, fun b h1 h2 h3 => (Below.heap_setCell w7 ⟨gb, 2, none⟩ _ b (fun he => h2 he)).trans (HP4.out b h1 h3), p5⟩
  exact Own.set_far HP1.out (fun he => hgb he.symm)

theorem svInfoBytes : (Tryz.prog.info? 26).map (fun i => (i.zero, i.size, i.bytes)) = some (some nilS, 1, 24) := by kernel_rfl
set_option maxHeartbeats 1000000 in
/-- A list is put into the bag. -/
theorem putBytes (gb base : Nat) (cs : Array Value) (A0 : Option Addr) (n0 c0 : Nat) (x : Sv) (L : List Sv) (w : World) (hx : Box w gb cs 138) (hi : cs[5]? = some (.slice A0 n0 c0)) (ho : Own 1 sRow 26 base w (.slice A0 n0 c0) L) (hne : blkH (.slice A0 n0 c0) ≠ some gb) (hn : L.length ≤ 100000) (hB : base ≤ w.heap.size) (hg : base ≤ gb) :
    Calls Tryz.prog 117 #[.pointer (some ⟨gb, 0, none⟩), .slice x.1 x.2.1 x.2.2] w fun e w' => e = .returned (.tuple #[]) ∧ ∃ g cap, Box w' gb (cs.setIfInBounds 5 (.slice (some ⟨g, 0, none⟩) (L.length + 1) cap)) 138 ∧ Own 1 sRow 26 base w' (.slice (some ⟨g, 0, none⟩) (L.length + 1) cap) (L ++ [x]) ∧ g ≠ gb ∧ Below base w w' ∧ w.heap.size ≤ w'.heap.size ∧ (∀ b, b < w.heap.size → b ≠ gb → some b ≠ blkH (.slice A0 n0 c0) → w'.heap[b]? = w.heap[b]?) ∧ (blkH (.slice A0 n0 c0) = some g ∨ w.heap.size < g) := by
  have HX := Lib.hid hx
  have HO := Lib.hid ho
  have HNE := Lib.hid hne
  have HI := Lib.hid hi
  have hgs : gb < w.heap.size := hx.lt
  have kz : w.cell? ⟨gb, 5, none⟩ = some (.slice A0 n0 c0) := (hx.cell 5).trans hi
  have fz : ∀ i, w.frozen? ⟨gb, i, none⟩ = false := hx.free
  clear hx ho hne hi
  go_enter Tryz.func117, Tryz.ntmps117
  go_wp2_with (at_builtin; refine wpList_append_keepH1 _ rfl (.tmp 8) (.tmp 10) 102 rfl base 26 _ 1 24 Tryz.underlying102 svInfoBytes rfl (Nat.succ_pos 0) sRow sRow_length sRow_one L _ rfl HO.out.h x _ rfl 26 _ rfl rfl (by omega) (by omega) hB ?_; intro g7 c7 w7 p1 p2 p3 p4 p5 p6 p7; have HP1 := Lib.hid p1; have HP3 := Lib.hid p3; have HP4 := Lib.hid p4; have HX7 := Lib.hid (show Box w7 gb cs 138 from (p4 gb hgs (fun he => HNE.out he.symm)).trans HX.out); have fz7 : ∀ i, w7.frozen? ⟨gb, i, none⟩ = false := HX7.out.free; have kz7 : w7.cell? ⟨gb, 5, none⟩ = some (.slice A0 n0 c0) := (HX7.out.cell 5).trans HI.out; clear p1 p2 p3 p4)
  go_end0
  have hgb : g7 ≠ gb := by
    rcases p5 with h | h
    · intro he; subst he; exact HNE.out h
    · omega
  refine ⟨rfl, g7, c7, HX7.out.set_ 5 _, ?_, hgb, below_set HP3.out hg, by simp; omega, fun b h1 h2 h3 => (Below.heap_setCell w7 ⟨gb, 5, none⟩ _ b (fun he => h2 he)).trans (HP4.out b h1 h3), p5⟩
  exact Own.set_far HP1.out (fun he => hgb he.symm)

end Go.Proofs.YtfglkpcboodllaaGreatDoor
