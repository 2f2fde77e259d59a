/-
  Merged: Lent, KitInts, Ent.
-/
import Derived.Test.YtglkgmijhdkhpaaDoorHa6
import Derived.Deep.AppendLies
import Derived.Test.YtglkgmijhdkhpaaDoorProg
import Derived.Test.YtglkgmijhdkhpaaDoorHa3
import Derived.WalkLawsBesides
import Derived.Lib.Hide
import Derived.Deep.QuietTactic
import Derived.BigQuiet
import Derived.IntWalk
import Derived.Test.YtglkgmijhdkhpaaDoorHa4
/-
  WORLD LEMMAS that name no program: a lent list (marks behind its end); a make of rows; two lists alike.
-/
set_option linter.unusedVariables false
namespace Go.Proofs.YtglkgmijhdkhpaaDoor
open Go.RowKit

section
variable {α : Type} {k : Nat} {row : α → List Value} {B B' : Nat} {w w' : World} {v : Value} {l ms : List α}

/-- The slice value v reads as l, lies at its block's head, and behind its end, in its spare room, stand the marks ms. -/
def Lnt {α : Type} (k : Nat) (row : α → List Value) (ms : List α) (B : Nat) (w : World) (v : Value) (l : List α) : Prop :=
  ∃ g cap, v = .slice (some ⟨g, 0, none⟩) l.length cap ∧ l.length + ms.length ≤ cap ∧ cap ≤ maxLen ∧ g < B ∧
    ∀ i x, (l ++ ms)[i]? = some x → ∀ j u, (row x)[j]? = some u → w.cell? ⟨g, i * k + j, none⟩ = some u
theorem Lnt.keep (h : Lnt k row ms B w v l) (hk : ∀ b o, b < B → w'.cell? ⟨b, o, none⟩ = w.cell? ⟨b, o, none⟩) : Lnt k row ms B w' v l := by
  obtain ⟨g, cap, hv, h1, h2, h3, h4⟩ := h
  exact ⟨g, cap, hv, h1, h2, h3, fun i x hx j u hu => (hk _ _ h3).trans (h4 i x hx j u hu)⟩
theorem Lnt.more (h : Lnt k row ms B w v l) (hB : B ≤ B') : Lnt k row ms B' w v l := by
  obtain ⟨g, cap, hv, h1, h2, h3, h4⟩ := h
  exact ⟨g, cap, hv, h1, h2, by omega, h4⟩
theorem Lnt.below (h : Lnt k row ms B w v l) (hb : Below B w w') : Lnt k row ms B w' v l := h.keep fun _ _ hp => hb.cell (p := ⟨_, _, none⟩) hp
theorem Lnt.later (h : Lnt k row ms w.heap.size w v l) (hb : Below w.heap.size w w') : Lnt k row ms w'.heap.size w' v l := (h.below hb).more hb.size
theorem Lnt.alloc (h : Lnt k row ms w.heap.size w v l) (o : Obj) : Lnt k row ms (w.alloc o).heap.size (w.alloc o) v l := h.later ((Below.refl _ _).alloc (Nat.le_refl _) o)
theorem Lnt.sl (h : Lnt k row ms B w v l) : Sl k row B w v l := by
  obtain ⟨g, cap, hv, h1, h2, h3, h4⟩ := h
  refine ⟨_, cap, hv, by omega, h2, fun h => by simp at h, fun _ => ⟨g, 0, rfl, h3, fun i x hx j u hu => ?_⟩⟩
  have hi := (List.getElem?_eq_some_iff.1 hx).1
  rw [Nat.zero_add]
  exact h4 i x (by rw [List.getElem?_append_left hi]; exact hx) j u hu
/-- The whole, marks too, as a list. -/
theorem Lnt.all (h : Lnt k row ms B w v l) : ∃ g cap, v = .slice (some ⟨g, 0, none⟩) l.length cap ∧ l.length + ms.length ≤ cap ∧ cap ≤ maxLen ∧ g < B ∧
    ∀ i x, (l ++ ms)[i]? = some x → ∀ j u, (row x)[j]? = some u → w.cell? ⟨g, i * k + j, none⟩ = some u := h
/-- An owned list that ends with marks, cut to what stands ahead of them. -/
theorem Own.lnt {e : TypeId} {base g n cap : Nat} (h : Own k row e base w (.slice (some ⟨g, 0, none⟩) n cap) (l ++ ms)) (hrow : ∀ x, (row x).length = k) (hms : ms ≠ []) :
    Lnt k row ms w.heap.size w (.slice (some ⟨g, 0, none⟩) l.length cap) l := by
  obtain ⟨b, off, cap', hv, h1, h2, h3, h4⟩ := (h.sl hrow).cellAt (by simp [hms])
  have hoff : off = 0 := by simp only [Value.slice.injEq, Option.some.injEq, Addr.mk.injEq] at hv; omega
  simp only [Value.slice.injEq, Option.some.injEq, Addr.mk.injEq, and_true] at hv
  obtain ⟨⟨rfl, -⟩, rfl, rfl⟩ := hv
  subst hoff
  refine ⟨_, _, rfl, by simpa using h1, h2, h3, fun i x hx j u hu => ?_⟩
  have := h4 i x hx j u hu
  rwa [Nat.zero_add] at this
theorem Own.form' {e : TypeId} {base : Nat} (h : Own k row e base w v l) (hv : v ≠ .slice none 0 0) : ∃ g cap, v = .slice (some ⟨g, 0, none⟩) l.length cap ∧ l.length ≤ cap ∧ cap ≤ maxLen ∧ base ≤ g ∧ g < w.heap.size := by
  rcases h.2 with ⟨h0, _⟩ | ⟨g, cap, cur, h0, hg, hh, h1, h2, _⟩
  · exact absurd h0 hv
  · exact ⟨g, cap, h0, h1, h2, hg, (Array.getElem?_eq_some_iff.1 hh).1⟩
end

/-- 'make([]T, 0, n)': an owned list of nothing, with room. -/
theorem wpList_make_rows {α : Type} {P : Program} (w : World) {ops : Array Oper} {rest : List Oper} {o : Oper} {a : Act} {Q : Exit → Act → World → Prop}
    (hg : o.guard = none) (l c : Operand) (t : TypeId) (hop : o.op = Op.makeSlice t l c) (row : α → List Value)
    (base : Nat) (e : TypeId) (z : Value) (size bytes : Nat) (h1 : P.underlying t = some (.slice e)) (hinfo : (P.info? e).map (fun i => (i.zero, i.size, i.bytes)) = some (some z, size, bytes))
    (kl kc : IntKind) (C : Int) (n : Nat) (hl : a.eval l = .int kl 0) (hc : a.eval c = .int kc C) (hC : C = (n : Int)) (b2 : n ≤ 4294967296) (b2' : bytes ≤ 4096) (b4 : base ≤ w.heap.size)
    (hK : ∀ w', Own size row e base w' (.slice (some ⟨w.heap.size, 0, none⟩) 0 n) [] → Below w.heap.size w w' → wpList P ops Q rest (a.put o.dst (.slice (some ⟨w.heap.size, 0, none⟩) 0 n)) w') :
    wpList P ops Q (o :: rest) a w := by
  obtain ⟨i, hi, hz, hsz, hby⟩ := info_parts hinfo
  refine wpList_make_own w hg l c t hop base e i z size h1 hi hz hsz kl kc C n hl hc hC ?_ (by unfold maxLen; omega) b4 (fun w' r1 r2 => hK w' r1 ?_)
  · rw [hby]
    calc bytes * n ≤ 4096 * 4294967296 := Nat.mul_le_mul b2' b2
      _ ≤ 281474976710656 := by omega
  · exact grown_below r2 (Nat.le_refl _) (by simp)

/-- 'out = append(out, x)' at a step of a region that draws: x a row of k cells in a block that is known whole. -/
theorem step_append_row {α : Type} {P : Program} {w : World} {ops : Array Oper} {o : Oper} {a : Act} {K : Act → World → Prop} {Q : Exit → Act → World → Prop} {E : Prop} (hgd : o.guard = none) (s y : Operand) (t : TypeId)
    (ho : o.op = .call { callee := .builtin .append, args := #[s, y], argTypes := #[t, t] })
    (base : Nat) (e : TypeId) (z : Value) (k bytes : Nat) (ht : P.underlying t = some (.slice e)) (hinfo : (P.info? e).map (fun i => (i.zero, i.size, i.bytes)) = some (some z, k, bytes)) (hzs : z.cells.size = k) (hk0 : 0 < k)
    (row : α → List Value) (hrow : ∀ x, (row x).length = k) (hone : ∀ x, ∀ u ∈ row x, u.oneCell' = true)
    (l : List α) (v : Value) (hs : a.eval s = v) (hown : Own k row e base w v l) (x : α) (cells : Array Value) (hcells : cells = (row x).toArray) (e' : TypeId) (n0 : Nat) (hy : a.eval y = .slice (some ⟨n0, 0, none⟩) 1 1) (hn0 : Box w n0 cells e')
    (hlen : l.length + 1 ≤ 4294967296) (hbytes : bytes ≤ 4096) (hbase : base ≤ w.heap.size)
    (h : ∀ g cap w', Own k row e base w' (.slice (some ⟨g, 0, none⟩) (l ++ [x]).length cap) (l ++ [x]) → Below base w w' → base ≤ w'.heap.size → K (a.put o.dst (.slice (some ⟨g, 0, none⟩) (l ++ [x]).length cap)) w') :
    if Region.wanted o (yielded ops a.tmps) = true then Oper.wp P o a w K Q else E := by
  obtain ⟨i, hi, hz, hsz, hby⟩ := info_parts hinfo
  subst hcells
  refine step_append_lies w hgd s y t ho base e i z k bytes ht hi hz hsz hby hzs hk0 v l.length (l.flatMap row) hs hown ⟨n0, 0, none⟩ 1 1 (row x) hy (by simp [hrow]) (fun j u hu => World.news_of_block hn0 j u (by simpa using hu)) (hone x) (by omega) (by unfold maxLen; omega) ?_ hbase w.heap.size rfl ?_
  · calc (l.length + 1) * bytes ≤ 4294967296 * 4096 := Nat.mul_le_mul hlen hbytes
      _ ≤ 140737488355328 := by omega
  · intro g cap w' h1 h2 h3 h4
    have hb : ∀ g, v.ownBlock = some g → base ≤ g := fun g hg => (World.ownsRow.lt hown g hg).1
    have hB := (Below.refl base w).grown h2 hbase hb
    have e1 : (l ++ [x]).length = l.length + 1 := by simp
    have := h g cap w' (by unfold Own; rw [List.flatMap_append, e1]; simpa using h1) hB (Nat.le_trans hbase hB.size)
    rw [e1] at this
    exact this
end Go.Proofs.YtglkgmijhdkhpaaDoor
/-
  limpetkit's LentInts, KeptInts, SameInts: contracts.
-/
namespace Go.Proofs.YtglkgmijhdkhpaaDoor
open Go.RowKit
set_option linter.unusedVariables false

theorem i64Row_length (x : Int) : (i64Row x).length = 1 := rfl
theorem i64Row_one (x : Int) : ∀ u ∈ i64Row x, u.oneCell' = true := by
  intro u hu; simp [i64Row] at hu; rcases hu with rfl; rfl
theorem intInfo : (Tryd.prog.info? 3).map (fun i => (i.zero, i.size, i.bytes)) = some (some (.int .i64 0), 1, 8) := by kernel_rfl
def mrk (i : Nat) : Int := 8000024 + (i : Int)
def marks : List Int := (List.range 12).map mrk
theorem marks_length : marks.length = 12 := rfl
theorem marks_at {i : Nat} (h : i < 12) : marks[i]? = some (mrk i) := by simp [marks, h]
theorem marks_more {i : Nat} (h : i < 12) : marks.take (i + 1) = marks.take i ++ [mrk i] := take_at (marks_at h)

end Go.Proofs.YtglkgmijhdkhpaaDoor
/-
  THE PACKAGE entry, 1: members: contracts.
-/
set_option linter.unusedVariables false
namespace Go.Proofs.YtglkgmijhdkhpaaDoor
open Go.RowKit

set_option maxHeartbeats 400000 in
theorem entryRight (l : List Int) (v : Value) (w : World) (h : Sl 1 i64Row w.heap.size w v l) :
    Calls Tryd.prog 53 #[v] w fun e w' => e = .returned (.bool (memRight l)) ∧ w = w' := by
  obtain ⟨A, cap, rfl, hlc, hcm, -, hA⟩ := h
  have hn : l.length ≤ 9223372036854775807 := by unfold maxLen at hcm; omega
  clear hcm
  go_enter Tryd.func53, Tryd.ntmps53
  go_wp2_with fail
  go_loop [3, 4, 7] (fun _ _ j => ∃ (k : Nat) (p : Int), k ≤ l.length ∧ j = .int .i64 k ∧ memFrom 0 l = memFrom p (l.drop k) ∧ (0 < k → l[k - 1]? = some p) ∧ (k = 0 → p = 0)) (fun _ _ j => l.length - (intOf j).toNat)
  case atStart => exact ⟨0, 0, by omega, rfl, by simp, by simp, by simp⟩
  case round =>
    obtain ⟨k, p, hk, rfl, hm, hp, h0⟩ := hrel
    by_cases hlt : k < l.length
    · obtain ⟨b, off, rfl, hb, hcell⟩ := hA (by intro h; subst h; simp at hlt)
      obtain ⟨x, hx⟩ : ∃ x, l[k]? = some x := ⟨_, List.getElem?_eq_getElem hlt⟩
      have c0 : w.cell? ⟨b, off + k, none⟩ = some (.int .i64 x) := by simpa using hcell k x hx 0 _ rfl
      have cp : 0 < k → w.cell? ⟨b, off + (k - 1), none⟩ = some (.int .i64 p) := fun h => by simpa using hcell (k - 1) p (hp h) 0 _ rfl
      have HM : Hid (memFrom 0 l = (decide (1 ≤ x ∧ x ≤ 7 ∧ p < x) && memFrom x (l.drop (k + 1)))) := by rw [hm, drop_at hx]; rfl
      have HX := Lib.hid hx
      have HE : Hid (l.isEmpty = false) := by cases l <;> first | rfl | simp at hlt
      have H0 := Lib.hid h0
      clear hcell hx hm hp h0
      go_wp2
      all_goals first
        | (go_roundw
           case rel => exact ⟨k + 1, x, by omega, by go_num, by rw [HM.out, show decide (1 ≤ x ∧ x ≤ 7 ∧ p < x) = true from decide_eq_true (by first | omega | (have := H0.out (by omega); omega))]; rfl, fun _ => HX.out, by omega⟩
           case measure => simp [intOf]; omega)
        | (go_ret
           exact ⟨ret_bool (by rw [memRight, HM.out, show decide (1 ≤ x ∧ x ≤ 7 ∧ p < x) = false from decide_eq_false (by omega)]; rfl), rfl⟩)
    · have : k = l.length := by omega
      subst this
      have HM := Lib.hid (show memFrom 0 l = true by rw [hm]; simp [memFrom])
      clear hm hp h0
      go_wp2
      go_ret
      exact ⟨ret_bool (by rw [memRight, HM.out]; cases l <;> simp), rfl⟩


end Go.Proofs.YtglkgmijhdkhpaaDoor
