/-
  Merged: Lent, KitInts, Ext, Match.
-/
import Derived.Test.YtfglkpcboodllaaGreatDoorMr3
import Derived.Deep.AppendLies
import Derived.Test.YtfglkpcboodllaaGreatDoorProg
import Derived.Test.YtfglkpcboodllaaGreatDoorMr1
import Derived.WalkLawsBesides
import Derived.Lib.Hide
import Derived.Deep.QuietTactic
import Derived.BigQuiet
import Derived.IntWalk
/-
  WORLD LEMMAS that name no program: a lent list (marks behind its end); a make of rows; two lists alike.
-/
set_option linter.unusedVariables false
namespace Go.Proofs.YtfglkpcboodllaaGreatDoor
open Go.RowKit

section
variable {α : Type} {k : Nat} {row : α → List Value} {B B' : Nat} {w w' : World} {v : Value} {l ms : List α}

/-- The slice value v reads as l, lies at its block's head, and behind its end, in its spare room, stand the marks ms. -/
def Lnt {α : Type} (k : Nat) (row : α → List Value) (ms : List α) (B : Nat) (w : World) (v : Value) (l : List α) : Prop :=
  ∃ g cap, v = .slice (some ⟨g, 0, none⟩) l.length cap ∧ l.length + ms.length ≤ cap ∧ cap ≤ maxLen ∧ g < B ∧
    ∀ i x, (l ++ ms)[i]? = some x → ∀ j u, (row x)[j]? = some u → w.cell? ⟨g, i * k + j, none⟩ = some u
theorem Lnt.keep (h : Lnt k row ms B w v l) (hk : ∀ b o, b < B → w'.cell? ⟨b, o, none⟩ = w.cell? ⟨b, o, none⟩) : Lnt k row ms B w' v l := by
  obtain ⟨g, cap, hv, h1, h2, h3, h4⟩ := h
  exact ⟨g, cap, hv, h1, h2, h3, fun i x hx j u hu => (hk _ _ h3).trans (h4 i x hx j u hu)⟩
theorem Lnt.more (h : Lnt k row ms B w v l) (hB : B ≤ B') : Lnt k row ms B' w v l := by
  obtain ⟨g, cap, hv, h1, h2, h3, h4⟩ := h
  exact ⟨g, cap, hv, h1, h2, by omega, h4⟩
theorem Lnt.below (h : Lnt k row ms B w v l) (hb : Below B w w') : Lnt k row ms B w' v l := h.keep fun _ _ hp => hb.cell (p := ⟨_, _, none⟩) hp
theorem Lnt.later (h : Lnt k row ms w.heap.size w v l) (hb : Below w.heap.size w w') : Lnt k row ms w'.heap.size w' v l := (h.below hb).more hb.size
theorem Lnt.alloc (h : Lnt k row ms w.heap.size w v l) (o : Obj) : Lnt k row ms (w.alloc o).heap.size (w.alloc o) v l := h.later ((Below.refl _ _).alloc (Nat.le_refl _) o)
theorem Lnt.sl (h : Lnt k row ms B w v l) : Sl k row B w v l := by
  obtain ⟨g, cap, hv, h1, h2, h3, h4⟩ := h
  refine ⟨_, cap, hv, by omega, h2, fun h => by simp at h, fun _ => ⟨g, 0, rfl, h3, fun i x hx j u hu => ?_⟩⟩
  have hi := (List.getElem?_eq_some_iff.1 hx).1
  rw [Nat.zero_add]
  exact h4 i x (by rw [List.getElem?_append_left hi]; exact hx) j u hu
/-- The whole, marks too, as a list. -/
theorem Lnt.all (h : Lnt k row ms B w v l) : ∃ g cap, v = .slice (some ⟨g, 0, none⟩) l.length cap ∧ l.length + ms.length ≤ cap ∧ cap ≤ maxLen ∧ g < B ∧
    ∀ i x, (l ++ ms)[i]? = some x → ∀ j u, (row x)[j]? = some u → w.cell? ⟨g, i * k + j, none⟩ = some u := h
/-- An owned list that ends with marks, cut to what stands ahead of them. -/
theorem Own.lnt {e : TypeId} {base g n cap : Nat} (h : Own k row e base w (.slice (some ⟨g, 0, none⟩) n cap) (l ++ ms)) (hrow : ∀ x, (row x).length = k) (hms : ms ≠ []) :
    Lnt k row ms w.heap.size w (.slice (some ⟨g, 0, none⟩) l.length cap) l := by
  obtain ⟨b, off, cap', hv, h1, h2, h3, h4⟩ := (h.sl hrow).cellAt (by simp [hms])
  have hoff : off = 0 := by simp only [Value.slice.injEq, Option.some.injEq, Addr.mk.injEq] at hv; omega
  simp only [Value.slice.injEq, Option.some.injEq, Addr.mk.injEq, and_true] at hv
  obtain ⟨⟨rfl, -⟩, rfl, rfl⟩ := hv
  subst hoff
  refine ⟨_, _, rfl, by simpa using h1, h2, h3, fun i x hx j u hu => ?_⟩
  have := h4 i x hx j u hu
  rwa [Nat.zero_add] at this
theorem Own.form' {e : TypeId} {base : Nat} (h : Own k row e base w v l) (hv : v ≠ .slice none 0 0) : ∃ g cap, v = .slice (some ⟨g, 0, none⟩) l.length cap ∧ l.length ≤ cap ∧ cap ≤ maxLen ∧ base ≤ g ∧ g < w.heap.size := by
  rcases h.2 with ⟨h0, _⟩ | ⟨g, cap, cur, h0, hg, hh, h1, h2, _⟩
  · exact absurd h0 hv
  · exact ⟨g, cap, h0, h1, h2, hg, (Array.getElem?_eq_some_iff.1 hh).1⟩
end

/-- 'make([]T, 0, n)': an owned list of nothing, with room. -/
theorem wpList_make_rows {α : Type} {P : Program} (w : World) {ops : Array Oper} {rest : List Oper} {o : Oper} {a : Act} {Q : Exit → Act → World → Prop}
    (hg : o.guard = none) (l c : Operand) (t : TypeId) (hop : o.op = Op.makeSlice t l c) (row : α → List Value)
    (base : Nat) (e : TypeId) (z : Value) (size bytes : Nat) (h1 : P.underlying t = some (.slice e)) (hinfo : (P.info? e).map (fun i => (i.zero, i.size, i.bytes)) = some (some z, size, bytes))
    (kl kc : IntKind) (C : Int) (n : Nat) (hl : a.eval l = .int kl 0) (hc : a.eval c = .int kc C) (hC : C = (n : Int)) (b2 : n ≤ 4294967296) (b2' : bytes ≤ 4096) (b4 : base ≤ w.heap.size)
    (hK : ∀ w', Own size row e base w' (.slice (some ⟨w.heap.size, 0, none⟩) 0 n) [] → Below w.heap.size w w' → wpList P ops Q rest (a.put o.dst (.slice (some ⟨w.heap.size, 0, none⟩) 0 n)) w') :
    wpList P ops Q (o :: rest) a w := by
  obtain ⟨i, hi, hz, hsz, hby⟩ := info_parts hinfo
  refine wpList_make_own w hg l c t hop base e i z size h1 hi hz hsz kl kc C n hl hc hC ?_ (by unfold maxLen; omega) b4 (fun w' r1 r2 => hK w' r1 ?_)
  · rw [hby]
    calc bytes * n ≤ 4096 * 4294967296 := Nat.mul_le_mul b2' b2
      _ ≤ 281474976710656 := by omega
  · exact grown_below r2 (Nat.le_refl _) (by simp)

/-- 'out = append(out, x)' at a step of a region that draws: x a row of k cells in a block that is known whole. -/
theorem step_append_row {α : Type} {P : Program} {w : World} {ops : Array Oper} {o : Oper} {a : Act} {K : Act → World → Prop} {Q : Exit → Act → World → Prop} {E : Prop} (hgd : o.guard = none) (s y : Operand) (t : TypeId)
    (ho : o.op = .call { callee := .builtin .append, args := #[s, y], argTypes := #[t, t] })
    (base : Nat) (e : TypeId) (z : Value) (k bytes : Nat) (ht : P.underlying t = some (.slice e)) (hinfo : (P.info? e).map (fun i => (i.zero, i.size, i.bytes)) = some (some z, k, bytes)) (hzs : z.cells.size = k) (hk0 : 0 < k)
    (row : α → List Value) (hrow : ∀ x, (row x).length = k) (hone : ∀ x, ∀ u ∈ row x, u.oneCell' = true)
    (l : List α) (v : Value) (hs : a.eval s = v) (hown : Own k row e base w v l) (x : α) (cells : Array Value) (hcells : cells = (row x).toArray) (e' : TypeId) (n0 : Nat) (hy : a.eval y = .slice (some ⟨n0, 0, none⟩) 1 1) (hn0 : Box w n0 cells e')
    (hlen : l.length + 1 ≤ 4294967296) (hbytes : bytes ≤ 4096) (hbase : base ≤ w.heap.size)
    (h : ∀ g cap w', Own k row e base w' (.slice (some ⟨g, 0, none⟩) (l ++ [x]).length cap) (l ++ [x]) → Below base w w' → base ≤ w'.heap.size → K (a.put o.dst (.slice (some ⟨g, 0, none⟩) (l ++ [x]).length cap)) w') :
    if Region.wanted o (yielded ops a.tmps) = true then Oper.wp P o a w K Q else E := by
  obtain ⟨i, hi, hz, hsz, hby⟩ := info_parts hinfo
  subst hcells
  refine step_append_lies w hgd s y t ho base e i z k bytes ht hi hz hsz hby hzs hk0 v l.length (l.flatMap row) hs hown ⟨n0, 0, none⟩ 1 1 (row x) hy (by simp [hrow]) (fun j u hu => World.news_of_block hn0 j u (by simpa using hu)) (hone x) (by omega) (by unfold maxLen; omega) ?_ hbase w.heap.size rfl ?_
  · calc (l.length + 1) * bytes ≤ 4294967296 * 4096 := Nat.mul_le_mul hlen hbytes
      _ ≤ 140737488355328 := by omega
  · intro g cap w' h1 h2 h3 h4
    have hb : ∀ g, v.ownBlock = some g → base ≤ g := fun g hg => (World.ownsRow.lt hown g hg).1
    have hB := (Below.refl base w).grown h2 hbase hb
    have e1 : (l ++ [x]).length = l.length + 1 := by simp
    have := h g cap w' (by unfold Own; rw [List.flatMap_append, e1]; simpa using h1) hB (Nat.le_trans hbase hB.size)
    rw [e1] at this
    exact this
end Go.Proofs.YtfglkpcboodllaaGreatDoor
/-
  limpetkit's LentInts, KeptInts, SameInts: contracts.
-/
namespace Go.Proofs.YtfglkpcboodllaaGreatDoor
open Go.RowKit
set_option linter.unusedVariables false

theorem i64Row_length (x : Int) : (i64Row x).length = 1 := rfl
theorem i64Row_one (x : Int) : ∀ u ∈ i64Row x, u.oneCell' = true := by
  intro u hu; simp [i64Row] at hu; rcases hu with rfl; rfl
theorem intInfo : (Tryz.prog.info? 3).map (fun i => (i.zero, i.size, i.bytes)) = some (some (.int .i64 0), 1, 8) := by kernel_rfl
def mrk (i : Nat) : Int := 8000024 + (i : Int)
def marks : List Int := (List.range 12).map mrk
theorem marks_length : marks.length = 12 := rfl
theorem marks_at {i : Nat} (h : i < 12) : marks[i]? = some (mrk i) := by simp [marks, h]
theorem marks_more {i : Nat} (h : i < 12) : marks.take (i + 1) = marks.take i ++ [mrk i] := take_at (marks_at h)

set_option maxHeartbeats 400000 in
theorem mark1 (i : Nat) (w : World) (h : i ≤ 12) : Calls Tryz.prog 115 #[.int .i64 1, .int .i64 i] w fun e w' => e = .returned (.int .i64 (mrk i)) ∧ w = w' := by
  go_enter Tryz.func115, Tryz.ntmps115
  go_wp2
  go_ret
  exact ⟨rfl, rfl⟩

theorem mark2 (x : Int) (w : World) (h0 : 0 ≤ x) (h1 : x ≤ 12) : Calls Tryz.prog 115 #[.int .i64 1, .int .i64 x] w fun e w' => e = .returned (.int .i64 (8000024 + x)) ∧ w' = w := by
  obtain ⟨i, rfl⟩ := Int.eq_ofNat_of_zero_le h0
  exact (mark1 i w (by omega)).mono fun e w' ⟨he, hw⟩ => ⟨he, hw.symm⟩

set_option maxHeartbeats 400000 in
theorem lentIntsF (l : List Int) (v : Value) (w : World) (h : Sl 1 i64Row w.heap.size w v l) (hn : l.length ≤ 1000000) :
    Calls Tryz.prog 61 #[v] w fun e w' => ∃ g cp, e = .returned (.slice (some ⟨g, 0, none⟩) l.length cp) ∧ w.heap.size ≤ g ∧ Lnt 1 i64Row marks w'.heap.size w' (.slice (some ⟨g, 0, none⟩) l.length cp) l ∧ Below w.heap.size w w' := by
  have h' := h
  obtain ⟨A, cap, rfl, hlc, hcm, hN, -⟩ := h'
  clear hcm hN
  go_enter Tryz.func61, Tryz.ntmps61
  go_wp2_with (first
    | (at_make; refine wpList_make_rows _ rfl _ _ 22 rfl i64Row w.heap.size 3 _ 1 8 Tryz.underlying22 intInfo .i64 .i64 _ (l.length + 12) rfl rfl (by omega) (by omega) (by omega) (Nat.le_refl _) ?_; intro w0 hown0 hb0)
    | (at_builtin; refine wpList_append_all _ rfl (.tmp 9) (.tmp 10) 22 rfl w.heap.size 3 _ 1 8 Tryz.underlying22 intInfo rfl (by omega) i64Row i64Row_length i64Row_one [] _ rfl hown0 l w.heap.size _ (h.below hb0) rfl (by unfold maxLen; simp; omega) (by simp; omega) hb0.size ?_; intro v' w' h1 h2 h3 h4 h5))
  have hB := hb0.trans h2
  rw [List.nil_append] at h1
  clear hown0 hb0 h2 h3 h4 h5
  go_loopw [3, 4] (fun v i wr => ∃ k : Nat, k ≤ 12 ∧ i = .int .i64 k ∧ Own 1 i64Row 3 w.heap.size wr v (l ++ marks.take k) ∧ (v = .slice none 0 0 → k = 0) ∧ Below w.heap.size w wr) (fun _ i _ => 12 - (intOf i).toNat)
  case atStart => exact ⟨0, by omega, rfl, by simpa using h1, fun _ => rfl, hB⟩
  case round =>
    clear h1 hB
    obtain ⟨k, hk, rfl, hown, hnn, hB⟩ := hrel
    by_cases hlt : k < 12
    · have HO := Lib.hid hown
      have HN := Lib.hid hnn
      have hz := hB.size
      have hle : (l ++ marks.take k).length ≤ 1000012 := by have := List.length_take_le k marks; rw [List.length_append]; omega
      clear hown hnn
      go_wp2_with (first
        | (go_at_call 115; refine (mark1 k _ (by omega)).mono ?_; rintro e w' ⟨rfl, rfl⟩)
        | (at_builtin; refine wpList_append_row _ rfl (.tmp 16) (.tmp 19) 22 rfl w.heap.size 3 _ 1 8 Tryz.underlying22 intInfo rfl (by omega) i64Row i64Row_length i64Row_one _ _ rfl HO.out (mrk k) _ rfl 3 _ rfl rfl (by omega) (by omega) hz ?_; intro v' w' p1 p2 p3 p4 p5))
      have HP := Lib.hid p1
      have HB := Lib.hid (hB.trans p2)
      have HV := Lib.hid p5
      clear p1 p2 p3 p4 p5 hB
      go_roundw
      case rel => exact ⟨k + 1, by omega, by go_num, by rw [marks_more hlt, ← List.append_assoc]; exact HP.out, fun h => absurd h HV.out, HB.out⟩
      case measure => simp [intOf]; omega
    · obtain rfl : k = 12 := by omega
      have h3 : u3 ≠ .slice none 0 0 := fun h => by have := hnn h; omega
      obtain ⟨g, cp, rfl, q1, q2, q3, q4⟩ := hown.form' h3
      have HL : Hid (Lnt 1 i64Row marks wr.heap.size wr (.slice (some ⟨g, 0, none⟩) l.length cp) l) := Own.lnt hown i64Row_length (by decide)
      have HB := Lib.hid hB
      have hlen : (l ++ marks.take 12).length = l.length + 12 := by rw [List.length_append]; rfl
      rw [hlen] at q1
      clear hown hnn h3 hB
      go_wp2
      go_ret
      exact ⟨_, _, rfl, q3, HL.out, HB.out⟩

theorem lentInts (l : List Int) (v : Value) (w : World) (h : Sl 1 i64Row w.heap.size w v l) (hn : l.length ≤ 1000000) :
    Calls Tryz.prog 61 #[v] w fun e w' => ∃ v', e = .returned v' ∧ Lnt 1 i64Row marks w'.heap.size w' v' l ∧ Below w.heap.size w w' :=
  (lentIntsF l v w h hn).mono fun e w' ⟨g, cp, he, _, hl, hb⟩ => ⟨_, he, hl, hb⟩

set_option maxHeartbeats 1000000 in
theorem keptInts (l : List Int) (v v' : Value) (w : World) (h : Lnt 1 i64Row marks w.heap.size w v l) (h' : Sl 1 i64Row w.heap.size w v' l) (hn : l.length ≤ 1000000) :
    Calls Tryz.prog 71 #[v, v'] w fun e w' => e = .returned (.bool true) ∧ ∃ n, w' = w.drewN n := by
  obtain ⟨g, cap, rfl, q1, q2, hg, hall⟩ := h
  obtain ⟨A', cap', rfl, hlc', hcm', -, hA'⟩ := h'
  rw [marks_length] at q1
  have q2' : cap ≤ 9223372036854775807 := by unfold maxLen at q2; omega
  clear hcm' q2
  go_enter Tryz.func71, Tryz.ntmps71
  go_wp2_with fail
  go_loopw [6] (fun i wr => ∃ k n : Nat, k ≤ l.length + 12 ∧ i = .int .i64 k ∧ wr = w.drewN n) (fun i _ => l.length + 12 - (intOf i).toNat)
  case atStart => exact ⟨0, 0, by omega, rfl, rfl⟩
  case round =>
    obtain ⟨k, n, hk, rfl, hwr⟩ := hrel
    have HW := Lib.hid hwr
    have hcc : ∀ p, wr.cell? p = w.cell? p := fun p => by rw [hwr]; simp
    clear hwr
    have i0 : (0 : Int) ≤ (k : Int) := by omega
    by_cases hlt : k < l.length
    · obtain ⟨b', off', rfl, hb', hcell'⟩ := hA' (by intro h; subst h; simp at hlt)
      obtain ⟨x, hx⟩ : ∃ x, l[k]? = some x := ⟨_, List.getElem?_eq_getElem hlt⟩
      have c0 : wr.cell? ⟨g, k, none⟩ = some (.int .i64 x) := by rw [hcc]; simpa using hall k x (by rw [List.getElem?_append_left hlt]; exact hx) 0 _ rfl
      have c1 : wr.cell? ⟨b', off' + k, none⟩ = some (.int .i64 x) := by rw [hcc]; simpa using hcell' k x hx 0 _ rfl
      have i1 : (k : Int) < (l.length : Int) := by omega
      have i2 : (k : Int) < (l.length : Int) + 12 := by omega
      have d1 : decide (k < l.length) = true := by simpa using hlt
      have d2 : decide (l.length ≤ k) = false := by simpa using hlt
      clear hcell' hx hA' hall hcc
      go_wp2_with fail
      go_quiet (fail)
      go_wp2_with fail
      go_roundw
      case rel => exact ⟨k + 1, _, by omega, by go_num, by rw [HW.out]; exact World.drewN_drewN _ _ _⟩
      case measure => simp [intOf]; omega
    · by_cases hlt2 : k < l.length + 12
      · have c0 : wr.cell? ⟨g, k, none⟩ = some (.int .i64 (8000024 + ((k : Int) - (l.length : Int)))) := by
          have := hall k (mrk (k - l.length)) (by rw [List.getElem?_append_right (by omega)]; exact marks_at (by omega)) 0 _ rfl
          rw [show (8000024 + ((k : Int) - (l.length : Int)) : Int) = mrk (k - l.length) by unfold mrk; omega]
          rw [hcc]; simpa using this
        have i1 : (l.length : Int) ≤ (k : Int) := by omega
        have i2 : (k : Int) < (l.length : Int) + 12 := by omega
        have m0 : (0 : Int) ≤ (k : Int) - (l.length : Int) := by omega
        have m1 : (k : Int) - (l.length : Int) ≤ 12 := by omega
        have d1 : decide (k < l.length) = false := by simpa using hlt
        have d2 : decide (l.length ≤ k) = true := by simpa using hlt
        have w1 : IntKind.i64.wrap ((k : Int) - (l.length : Int)) = (k : Int) - (l.length : Int) := IntWalk.i64_in _ (by omega)
        clear hA' hall hlt hcc
        go_wp2_with fail
        go_quiet ((go_at_call 115; exact Calls.quiet_of_same (mark2 _ _ m0 m1)))
        clear w1
        go_wp2_with fail
        go_roundw
        case rel => exact ⟨k + 1, _, by omega, by go_num, by rw [HW.out]; exact World.drewN_drewN _ _ _⟩
        case measure => simp [intOf]; omega
      · go_wp2_with fail
        go_ret
        exact ⟨rfl, n, HW.out⟩
end Go.Proofs.YtfglkpcboodllaaGreatDoor
/-
  A REGION, whether it draws its order or not, walked once over a class of worlds that is a type: laws that name no program.
-/
set_option linter.unusedVariables false
namespace Go.Proofs.YtfglkpcboodllaaGreatDoor
open Go.RowKit

/-! ### The class as a subtype: facts on its worlds hold without a condition, so that the walk's own simp uses them -/
/-- A world that leaves all that stood in W be. -/
def Ext (W : World) : Type := { w' : World // Below W.heap.size W w' }
/-- The world itself. -/
def Ext.wd {W : World} (x : Ext W) : World := x.val
theorem Ext.low {W : World} (x : Ext W) : Below W.heap.size W x.wd := x.property
def Ext.mk {W w : World} (h : Below W.heap.size W w) : Ext W := ⟨w, h⟩
instance ext_nonempty (W : World) : Nonempty (Ext W) := ⟨Ext.mk (Below.refl _ _)⟩

section
variable {P : Program} {ops : Array Oper} {C : World → Prop}
theorem wpList_of_quiet {Q : Act → Prop} {Q' : Exit → Act → World → Prop} (hQ : ∀ a w, C w → Q a → Q' .normal a w) : ∀ (l : List Oper) (a : Act) (w : World), C w → wpQuiet P ops C Q l a → wpList P ops Q' l a w
  | [], a, w, hw, h => hQ a w hw h
  | o :: rest, a, w, hw, h => by
    unfold wpQuiet at h
    unfold wpList
    split at h
    · rename_i hwant
      rw [if_pos hwant]
      exact .inl (Oper.wp_of_quiet hw (fun a' w' hw' h' => wpList_of_quiet hQ rest a' w' hw' h') h)
    · rename_i hwant
      rw [if_neg hwant]
      exact wpList_of_quiet hQ rest _ w hw h
end
/-- A region that draws its order, walked once. -/
theorem wp_region_ext {P : Program} {id : Nat} {Q : Exit → Act → World → Prop} {a : Act} {w : World} {l : List Oper} (hm : P.follows .mixedOrders = true) (hB : Region.lexB .any l.toArray = true)
    (h : wpQuiet P l.toArray (fun w' => ∃ x : Ext w, w' = x.wd) (fun a' => ∀ w', (∃ x : Ext w, w' = x.wd) → Q .normal a' w') l a) : (Code.region id l.toArray true).wp P Q a w :=
  wp_region_quiet (C := fun w' => ∃ x : Ext w, w' = x.wd) hm hB ⟨Ext.mk (Below.refl _ _).drew, rfl⟩ (by simpa using h)
/-- A region that does not. -/
theorem wp_region_ext_plain {P : Program} {id : Nat} {Q : Exit → Act → World → Prop} {a : Act} {w : World} {l : List Oper}
    (h : wpQuiet P l.toArray (fun w' => ∃ x : Ext w, w' = x.wd) (fun a' => ∀ w', (∃ x : Ext w, w' = x.wd) → Q .normal a' w') l a) : (Code.region id l.toArray false).wp P Q a w :=
  wp_region_lit (wpList_of_quiet (C := fun w' => ∃ x : Ext w, w' = x.wd) (fun _ w' hw h => h w' hw) l a w ⟨Ext.mk (Below.refl _ _), rfl⟩ h)
/-- The same, begun in a world of a class that stands. -/
theorem wp_region_ext_at {P : Program} {id : Nat} {Q : Exit → Act → World → Prop} {a : Act} {W : World} (x0 : Ext W) {l : List Oper} (hm : P.follows .mixedOrders = true) (hB : Region.lexB .any l.toArray = true)
    (h : wpQuiet P l.toArray (fun w' => ∃ x : Ext W, w' = x.wd) (fun a' => ∀ w', (∃ x : Ext W, w' = x.wd) → Q .normal a' w') l a) : (Code.region id l.toArray true).wp P Q a x0.wd :=
  wp_region_quiet (C := fun w' => ∃ x : Ext W, w' = x.wd) hm hB ⟨Ext.mk x0.low.drew, rfl⟩ (by simpa using h)
theorem wp_region_ext_plain_at {P : Program} {id : Nat} {Q : Exit → Act → World → Prop} {a : Act} {W : World} (x0 : Ext W) {l : List Oper}
    (h : wpQuiet P l.toArray (fun w' => ∃ x : Ext W, w' = x.wd) (fun a' => ∀ w', (∃ x : Ext W, w' = x.wd) → Q .normal a' w') l a) : (Code.region id l.toArray false).wp P Q a x0.wd :=
  wp_region_lit (wpList_of_quiet (C := fun w' => ∃ x : Ext W, w' = x.wd) (fun _ w' hw h => h w' hw) l a x0.wd ⟨x0, rfl⟩ h)
/-- A callee's contract, met in a world of the class. -/
theorem ext_of {P : Program} {f : FuncId} {args : Array Value} {W : World} {v : Value} (x : Ext W) (h : Calls P f args x.wd fun e w' => e = .returned v ∧ Below x.wd.heap.size x.wd w') :
    Calls P f args x.wd fun e w'' => e = .returned v ∧ ∃ y : Ext W, w'' = y.wd := h.mono fun _ w' ⟨he, hb⟩ => ⟨he, Ext.mk (below_call x.low hb), rfl⟩
theorem ext_of_same {P : Program} {f : FuncId} {args : Array Value} {W : World} {v : Value} (x : Ext W) (h : Calls P f args x.wd fun e w' => e = .returned v ∧ x.wd = w') :
    Calls P f args x.wd fun e w'' => e = .returned v ∧ ∃ y : Ext W, w'' = y.wd := h.mono fun _ w' ⟨he, hb⟩ => ⟨he, x, hb.symm⟩
theorem ext_of_drew {P : Program} {f : FuncId} {args : Array Value} {W : World} {v : Value} (x : Ext W) (h : Calls P f args x.wd fun e w' => e = .returned v ∧ ∃ n, w' = x.wd.drewN n) :
    Calls P f args x.wd fun e w'' => e = .returned v ∧ ∃ y : Ext W, w'' = y.wd := h.mono fun _ w' ⟨he, n, hb⟩ => ⟨he, Ext.mk (below_drewN x.low n), hb⟩
/-- What a box is in the class. -/
theorem Box.ext {W : World} {n : Nat} {cs : Array Value} {t : TypeId} (h : Box W n cs t) (i : Nat) : ∀ x : Ext W, x.wd.cell? ⟨n, i, none⟩ = cs[i]? := fun x => (h.later x.low).cell i
end Go.Proofs.YtfglkpcboodllaaGreatDoor
/-
  match's Right: contract.
-/
set_option linter.unusedVariables false
set_option linter.unusedSimpArgs false
namespace Go.Proofs.YtfglkpcboodllaaGreatDoor
open Go.RowKit

set_option maxRecDepth 100000 in
set_option maxHeartbeats 2000000 in
theorem matchRight (b : Idt) (l : List Idt) (A : Option Addr) (c : Nat) (w : World) (h : Sl 3 idRow w.heap.size w (.slice A l.length c) l) (hb : I64 b.idx) (hin : ∀ p ∈ l, I64 p.idx) :
    Calls Tryz.prog 21 #[.agg #[.int .i64 b.idx, .int .i64 b.trm, .int .i64 b.knd, .slice A l.length c]] w fun e w' => e = .returned (.bool (rightV b l)) ∧ Below w.heap.size w w' := by
  obtain ⟨A', cap, hv, hlc, hcm, -, hA⟩ := h
  simp only [Value.slice.injEq] at hv
  obtain ⟨rfl, -, rfl⟩ := hv
  have hn : l.length ≤ 9223372036854775807 := by unfold maxLen at hcm; omega
  have HA := Lib.hid hA
  have HIN := Lib.hid hin
  obtain ⟨b0, b1⟩ := hb
  have HX0 := Lib.hid (Box.new w #[.int .i64 b.idx, .int .i64 b.trm, .int .i64 b.knd, .slice A l.length c] 36)
  clear hcm hA hin
  by_cases g1 : b.idx < 0
  · have d1 : decide (b.idx < 0) = true := decide_eq_true g1
    have HF := Lib.hid (headOk_no (b := b) (l := l) (by omega))
    go_enter Tryz.func21, Tryz.ntmps21
    go_wp2_with fail
    go_ret
    exact ⟨ret_bool HF.out.symm, below_new _ _⟩
  have d1 : decide (b.idx < 0) = false := decide_eq_false g1
  by_cases g2 : 1099511627776 < b.idx
  · have d2 : decide (1099511627776 < b.idx) = true := decide_eq_true g2
    have HF := Lib.hid (headOk_no (b := b) (l := l) (by omega))
    go_enter Tryz.func21, Tryz.ntmps21
    go_wp2_with fail
    go_ret
    exact ⟨ret_bool HF.out.symm, below_new _ _⟩
  have d2 : decide (1099511627776 < b.idx) = false := decide_eq_false g2
  by_cases g3 : 1099511627776 - b.idx < (l.length : Int)
  · have d3 : decide (1099511627776 - b.idx < (l.length : Int)) = true := decide_eq_true g3
    have HF := Lib.hid (headOk_no (b := b) (l := l) (by omega))
    go_enter Tryz.func21, Tryz.ntmps21
    go_wp2_with fail
    go_ret
    exact ⟨ret_bool HF.out.symm, below_new _ _⟩
  have d3 : decide (1099511627776 - b.idx < (l.length : Int)) = false := decide_eq_false g3
  have HR := Lib.hid (rightV_of (b := b) (l := l) (by omega))
  go_enter Tryz.func21, Tryz.ntmps21
  go_wp2_with fail
  go_loopw [3, 32] (fun tv i wr => ∃ (k : Nat) (tm : Int), k ≤ l.length ∧ i = .int .i64 k ∧ tv = .int .i64 tm ∧ vRun b.idx b.trm 0 l = vRun b.idx tm k (l.drop k) ∧ (k = l.length → endOk l = true) ∧ Below (w.alloc (.cells #[.int .i64 b.idx, .int .i64 b.trm, .int .i64 b.knd, .slice A l.length c] 36)).heap.size (w.alloc (.cells #[.int .i64 b.idx, .int .i64 b.trm, .int .i64 b.knd, .slice A l.length c] 36)) wr) (fun _ i _ => l.length - (intOf i).toNat)
  case atStart => exact ⟨0, b.trm, by omega, rfl, rfl, by simp, fun h => by rw [List.eq_nil_of_length_eq_zero h.symm]; rfl, Below.refl _ _⟩
  case round =>
    obtain ⟨k, tm, hk, rfl, rfl, hv, hend, hB⟩ := hrel
    have HV := Lib.hid hv
    have HB := Lib.hid hB
    have hz := hB.size
    have i0 : (0 : Int) ≤ (k : Int) := by omega
    have HE := Lib.hid hend
    have hbw : w.heap.size < wr.heap.size := by have := (HX0.out.later HB.out).lt; omega
    obtain ⟨kv, fv, zv⟩ := (HX0.out.later HB.out).facts
    clear hv hB hend
    by_cases hlt : k < l.length
    · obtain ⟨bb, off, rfl, hbl, hcell⟩ := HA.out (by intro h; subst h; simp at hlt)
      obtain ⟨x, hx⟩ : ∃ x, l[k]? = some x := ⟨_, List.getElem?_eq_getElem hlt⟩
      have c0 := ((below_call (below_new _ _) HB.out).cell (p := ⟨bb, off + k * 3, none⟩) hbl).trans (hcell k x hx 0 _ rfl)
      have c1 := ((below_call (below_new _ _) HB.out).cell (p := ⟨bb, off + k * 3 + 1, none⟩) hbl).trans (hcell k x hx 1 _ rfl)
      have c2 := ((below_call (below_new _ _) HB.out).cell (p := ⟨bb, off + k * 3 + 2, none⟩) hbl).trans (hcell k x hx 2 _ rfl)
      have i1 : (k : Int) < (l.length : Int) := by omega
      have d0 : decide ((k : Int) < (l.length : Int)) = true := decide_eq_true i1
      have d0' : decide (k < l.length) = true := decide_eq_true hlt
      have hbr : bb < wr.heap.size := by omega
      obtain ⟨x0, x1⟩ := HIN.out x (List.mem_of_getElem? hx)
      have HXX := Lib.hid hx
      clear hcell hx
      by_cases hk0 : x.knd = 0
      · have e0 : (x.knd == 0) = true := by simpa using hk0
        have HV1 := Lib.hid (HV.out.trans (vRun_zero HXX.out hk0))
        have w1 : (l.length : Int) - 1 = ((l.length - 1 : Nat) : Int) := by omega
        by_cases hk1 : k = l.length - 1
        · have e1 : ((k : Int) == (l.length : Int) - 1) = true := by simp; omega
          have HF := Lib.hid (show rightV b l = false by rw [HR.out, endOk_at (show l[l.length - 1]? = some x by rw [← hk1]; exact HXX.out), decide_eq_false (by simp [hk0]), Bool.and_false])
          clear hk1 w1 hk0
          go_wp2_with fail
          go_ret
          exact ⟨ret_bool HF.out.symm, below_call (below_new _ _) (below_call HB.out (below_new _ _))⟩
        · have e1 : ((k : Int) == (l.length : Int) - 1) = false := by simp; omega
          have HV2 := HV1
          have hk2 : k + 1 < l.length := by omega
          clear hk1 w1 hk0
          have HB2 := Lib.hid (below_call HB.out (below_new wr (.cells #[.int .i64 x.idx, .int .i64 x.trm, .int .i64 x.knd] 25)))
          go_wp2_with fail
          go_roundw
          case rel => exact ⟨k + 1, tm, by omega, by go_num, rfl, HV2.out, fun h => by omega, HB2.out⟩
          case measure => simp [intOf]; omega
      · have e0 : (x.knd == 0) = false := by simpa using hk0
        have HV1 := Lib.hid (HV.out.trans (vRun_known HXX.out hk0))
        have HNOT : Hid (¬ (x.idx = b.idx + 1 + (k : Int) ∧ tm ≤ x.trm) → rightV b l = false) := fun hno => by rw [HR.out, HV1.out, decide_eq_false hno]; rfl
        by_cases ht : x.trm < tm
        · have dt : decide (x.trm < tm) = true := decide_eq_true ht
          have HF := Lib.hid (HNOT.out (by omega))
          clear ht
          go_wp2_with fail
          go_ret
          exact ⟨ret_bool HF.out.symm, below_call (below_new _ _) (below_call HB.out (below_new _ _))⟩
        · have dt : decide (x.trm < tm) = false := decide_eq_false ht
          by_cases hi : x.idx = b.idx + 1 + (k : Int)
          · have HV2 := Lib.hid (show vRun b.idx b.trm 0 l = vRun b.idx x.trm (k + 1) (l.drop (k + 1)) by rw [HV1.out, decide_eq_true ⟨hi, by omega⟩]; rfl)
            have ei : (x.idx - (k : Int) - 1 != b.idx) = false := by simp; omega
            have ei2 : x.idx - (k : Int) - 1 = b.idx := by omega
            clear hk0 ht hi
            have HB2 := Lib.hid (below_call HB.out (below_new wr (.cells #[.int .i64 x.idx, .int .i64 x.trm, .int .i64 x.knd] 25)))
            go_wp2_with fail
            go_roundw
            case rel => exact ⟨k + 1, x.trm, by omega, by go_num, rfl, HV2.out, fun h => by rw [endOk_at (show l[l.length - 1]? = some x by rw [show l.length - 1 = k by omega]; exact HXX.out)]; exact decide_eq_true (by simpa using e0), HB2.out⟩
            case measure => simp [intOf]; omega
          · have HF := Lib.hid (HNOT.out (by omega))
            by_cases hfar : x.idx < -4611686018427387904
            · have ei : (wrap64 (wrap64 (x.idx - (k : Int)) - 1) != b.idx) = true := by simp [wrap64]; omega
              clear hi ht hk0
              go_wp2_with fail
              go_ret
              exact ⟨ret_bool HF.out.symm, below_call (below_new _ _) (below_call HB.out (below_new _ _))⟩
            · have ei : (x.idx - (k : Int) - 1 != b.idx) = true := by simp; omega
              have ei2 : x.idx - (k : Int) - 1 ≠ b.idx := by omega
              clear ht hk0
              go_wp2_with fail
              go_ret
              exact ⟨ret_bool HF.out.symm, below_call (below_new _ _) (below_call HB.out (below_new _ _))⟩
    · have hk' : k = l.length := by omega
      have d0 : decide ((k : Int) < (l.length : Int)) = false := decide_eq_false (by omega)
      have d0' : decide (k < l.length) = false := decide_eq_false hlt
      have i1 : (l.length : Int) ≤ (k : Int) := by omega
      have HF := Lib.hid (show rightV b l = true by rw [HR.out, HV.out, vRun_end _ _ _ _ (by omega), HE.out hk']; rfl)
      clear hk'
      go_wp2_with fail
      go_ret
      exact ⟨ret_bool HF.out.symm, below_call (below_new _ _) HB.out⟩

end Go.Proofs.YtfglkpcboodllaaGreatDoor
