/-
  Merged: FitOwn, SmallKit.
-/
import Derived.Test.YtfglkpcboodllaaGreatDoorMr11
import Derived.Test.YtfglkpcboodllaaGreatDoorMr12
import Derived.Test.YtfglkpcboodllaaGreatDoorMr5
import Derived.Test.YtfglkpcboodllaaGreatDoorMr14
import Derived.Lib.SliceRun
import Derived.Deep.RegionHeld3
import Derived.Deep.DeepCutAuto
import Derived.Test.YtfglkpcboodllaaGreatDoorMr4
/-
  match's show; slices.Clone of bytes; owned: contracts.
-/
set_option linter.unusedVariables false
set_option linter.unusedSimpArgs false
namespace Go.Proofs.YtfglkpcboodllaaGreatDoor
open Go.RowKit

set_option maxRecDepth 100000 in
set_option maxHeartbeats 1000000 in
/-- A copy of bytes: in memory of its own. -/
theorem cloneBytes (l : List Int) (v : Value) (w : World) (h : Sl 1 u8Row w.heap.size w v l) (hn : l.length ≤ 100000) :
    Calls Tryz.prog 100 #[v] w fun e w' => ∃ A c, e = .returned (.slice A l.length c) ∧ Own 1 u8Row 5 w.heap.size w' (.slice A l.length c) l ∧ Below w.heap.size w w' := by
  obtain ⟨A, cap, rfl, hlc, hcm, hN, hA⟩ := id h
  have HH := Lib.hid h
  have q23 : ∀ (w : World) (a : Option Addr) (n c n' c' : Nat), (binOp .eql 26 (.slice a n c) (.slice none n' c')).run Tryz.prog w = .ok (.bool a.isNone) w := fun w a n c n' c' => Lib.run_eql_slice_nil w _ _ a n c n' c' Tryz.underlying26
  cases A with
  | none =>
    have hc : cap = 0 := hN rfl
    have h0 : l = [] := List.eq_nil_of_length_eq_zero (by omega)
    subst h0; subst hc
    clear h hA hN
    go_enter Tryz.func100, Tryz.ntmps100
    go_wp2_with fail
    go_ret
    exact ⟨none, 0, rfl, Own.nil_ _ _ _ _ _, Below.refl _ _⟩
  | some ad =>
    clear h hA hN hlc hcm
    go_enter Tryz.func100, Tryz.ntmps100
    go_wp2_with (at_builtin; refine wpList_append_all _ rfl (.tmp 5) (.tmp 6) 26 rfl w.heap.size 5 _ 1 1 Tryz.underlying26 u8Info rfl (Nat.succ_pos 0) u8Row u8Row_length u8Row_one [] _ rfl (Own.made 1 u8Row 5 w) l w.heap.size _ (HH.out.below (below_new _ _)) rfl (by unfold maxLen; simp; omega) (by simp; omega) (by simp) ?_; intro v' w' h1 h2 h3 h4 h5; have HO := Lib.hid h1; have HB2 := Lib.hid ((below_new w (.cells #[] 5)).trans h2); clear h2 h3 h4 h5)
    obtain ⟨A2, c2, hv⟩ := HO.out.len
    go_ret
    rw [List.nil_append] at hv
    subst hv
    exact ⟨A2, c2, rfl, by have h := HO.out; rwa [List.nil_append] at h, HB2.out⟩

/-- Bodies in memory of their own, each in another block, none in the list's. -/
structure BodFam (base : Nat) (w : World) (blk : Option Nat) (m : List Ent) : Prop where
  own : ∀ (i : Nat) (x : Ent), m[i]? = some x → Own 1 u8Row 5 base w x.bv x.bd
  far : ∀ (i j : Nat) (x y : Ent), i ≠ j → m[i]? = some x → m[j]? = some y → ∀ q, blkH x.bv = some q → blkH y.bv ≠ some q
  out : ∀ (i : Nat) (x : Ent), m[i]? = some x → ∀ q, blkH x.bv = some q → blk ≠ some q
theorem BodFam.nil_ (base : Nat) (w : World) (blk : Option Nat) : BodFam base w blk [] := ⟨fun i x h => by simp at h, fun i j x y _ h => by simp at h, fun i x h => by simp at h⟩
theorem BodFam.lt {base : Nat} {w : World} {blk : Option Nat} {m : List Ent} (h : BodFam base w blk m) {i : Nat} {x : Ent} (hx : m[i]? = some x) {q : Nat} (hq : blkH x.bv = some q) : base ≤ q ∧ q < w.heap.size := (h.own i x hx).block (blkH_own hq)
/-- What is owned, or without room, stays where its block does: a body stays owned. -/
theorem Own.stayH {α : Type} {k : Nat} {row : α → List Value} {e : TypeId} {base : Nat} {w w' : World} {v : Value} {l : List α} (h : Own k row e base w v l) (hb : ∀ x, v.ownBlock = some x → w'.heap[x]? = w.heap[x]?) : Own k row e base w' v l := h.stay hb
theorem BodFam.stay {base : Nat} {w w' : World} {blk blk' : Option Nat} {m : List Ent} (h : BodFam base w blk m) (hb : ∀ (i : Nat) (x : Ent), m[i]? = some x → ∀ q, x.bv.ownBlock = some q → w'.heap[q]? = w.heap[q]?) (ho : ∀ (i : Nat) (x : Ent), m[i]? = some x → ∀ q, blkH x.bv = some q → blk' ≠ some q) : BodFam base w' blk' m :=
  ⟨fun i x hx => (h.own i x hx).stay (hb i x hx), h.far, ho⟩
theorem BodFam.snoc {base : Nat} {w : World} {blk : Option Nat} {m : List Ent} {x : Ent} (h : BodFam base w blk m) (hx : Own 1 u8Row 5 base w x.bv x.bd) (hf : ∀ (i : Nat) (y : Ent), m[i]? = some y → ∀ q, blkH y.bv = some q → blkH x.bv ≠ some q) (ho : ∀ q, blkH x.bv = some q → blk ≠ some q) : BodFam base w blk (m ++ [x]) := by
  have key : ∀ (i : Nat) (y : Ent), (m ++ [x])[i]? = some y → m[i]? = some y ∨ (i = m.length ∧ y = x) := by
    intro i y hy
    by_cases hi : i < m.length
    · rw [List.getElem?_append_left hi] at hy; exact .inl hy
    · rw [List.getElem?_append_right (by omega)] at hy
      by_cases h0 : i - m.length = 0
      · rw [h0] at hy; simp at hy; exact .inr ⟨by omega, hy.symm⟩
      · rw [List.getElem?_eq_none (by simp; omega)] at hy; simp at hy
  refine ⟨fun i y hy => ?_, fun i j y z hij hy hz q hq => ?_, fun i y hy q hq => ?_⟩
  · rcases key i y hy with h1 | ⟨-, rfl⟩
    · exact h.own i y h1
    · exact hx
  · rcases key i y hy with h1 | ⟨h1, rfl⟩
    · rcases key j z hz with h2 | ⟨h2, rfl⟩
      · exact h.far i j y z hij h1 h2 q hq
      · exact hf i y h1 q hq
    · rcases key j z hz with h2 | ⟨h2, rfl⟩
      · intro hz'; exact hf j z h2 q hz' hq
      · omega
  · rcases key i y hy with h1 | ⟨-, rfl⟩
    · exact h.out i y h1 q hq
    · exact ho q hq

set_option maxRecDepth 100000 in
set_option maxHeartbeats 4000000 in
theorem fitOwned (l : List Ent) (v : Value) (w : World) (h : Sl 4 entRow w.heap.size w v l) (hin : ∀ x ∈ l, EntIn w.heap.size w x ∧ x.bd.length ≤ 100000) (hn : l.length ≤ 100000) :
    Calls Tryz.prog 83 #[v] w fun e w' => ∃ A c m, e = .returned (.slice A l.length c) ∧ m.map keyE = l.map keyE ∧ Own 4 entRow 28 w.heap.size w' (.slice A l.length c) m ∧ BodFam w.heap.size w' (blkH (.slice A l.length c)) m ∧ Below w.heap.size w w' := by
  obtain ⟨Al, cl, rfl, -⟩ := id h
  have HLl := Lib.hid h
  have HIN := Lib.hid hin
  clear h hin
  go_enter Tryz.func83, Tryz.ntmps83
  go_wp2_with fail
  go_loopw [2, 7] (fun v i wr => ∃ (k : Nat) (m : List Ent) (A : Option Addr) (c : Nat), k ≤ l.length ∧ i = .int .i64 k ∧ v = .slice A k c ∧ m.map keyE = (l.take k).map keyE ∧ Own 4 entRow 28 w.heap.size wr (.slice A k c) m ∧ BodFam w.heap.size wr (blkH (.slice A k c)) m ∧ Below w.heap.size w wr) (fun _ i _ => l.length - (intOf i).toNat)
  case atStart => exact ⟨0, [], none, 0, by omega, rfl, rfl, rfl, Own.nil_ _ _ _ _ _, BodFam.nil_ _ _ _, Below.refl _ _⟩
  case round =>
    obtain ⟨k, m, A, c, hk, rfl, rfl, hkey, hown, hbf, hB⟩ := hrel
    have HB := Lib.hid hB
    have HO := Lib.hid hown
    have HF := Lib.hid hbf
    have HK := Lib.hid hkey
    have hml := Lib.hid (show m.length = k by have := congrArg List.length hkey; simpa [Nat.min_eq_left hk] using this)
    have hzr := hB.size
    clear hB hown hbf hkey
    by_cases hlt : k < l.length
    · obtain ⟨b, off, cap3, e3, hlc3, hcm3, hb3, hcell⟩ := HLl.out.cellAt (by intro h; subst h; simp at hlt)
      simp only [Value.slice.injEq] at e3
      obtain ⟨rfl, -, rfl⟩ := e3
      obtain ⟨x, hx⟩ : ∃ x, l[k]? = some x := ⟨_, List.getElem?_eq_getElem hlt⟩
      have d0 : decide ((k : Int) < (l.length : Int)) = true := decide_eq_true (by omega)
      have d0' : decide (k < l.length) = true := decide_eq_true hlt
      have i0 : (0 : Int) ≤ (k : Int) := by omega
      have i1 : (k : Int) < (l.length : Int) := by omega
      have k0 : wr.cell? ⟨b, off + k * 4, none⟩ = some (.int .i64 x.idx) := (HB.out.cell (p := ⟨b, off + k * 4 + 0, none⟩) hb3).trans (hcell k x hx 0 _ rfl)
      have k1 : wr.cell? ⟨b, off + k * 4 + 1, none⟩ = some (.int .i64 x.trm) := (HB.out.cell (p := ⟨b, off + k * 4 + 1, none⟩) hb3).trans (hcell k x hx 1 _ rfl)
      have k2 : wr.cell? ⟨b, off + k * 4 + 2, none⟩ = some (.int .i64 x.knd) := (HB.out.cell (p := ⟨b, off + k * 4 + 2, none⟩) hb3).trans (hcell k x hx 2 _ rfl)
      have k3 : wr.cell? ⟨b, off + k * 4 + 3, none⟩ = some (.slice x.ba x.bd.length x.bc) := (HB.out.cell (p := ⟨b, off + k * 4 + 3, none⟩) hb3).trans (hcell k x hx 3 _ rfl)
      have HXx := Lib.hid hx
      have HE := Lib.hid (HIN.out x (List.mem_of_getElem? hx))
      obtain ⟨gx, hgx⟩ : ∃ g, g = wr.heap.size := ⟨_, rfl⟩
      clear hcell hx
      go_upto_region 4 with fail
      have HXB0 := Lib.hid (Box.new wr #[.int .i64 x.idx, .int .i64 x.trm, .int .i64 x.knd, .slice x.ba x.bd.length x.bc] 28)
      have hgs : wr.heap.size + 1 = (wr.alloc (.cells #[.int .i64 x.idx, .int .i64 x.trm, .int .i64 x.knd, .slice x.ba x.bd.length x.bc] 28)).heap.size := by simp
      have HBA := Lib.hid (below_new wr (.cells #[.int .i64 x.idx, .int .i64 x.trm, .int .i64 x.knd, .slice x.ba x.bd.length x.bc] 28))
      obtain ⟨wa, hwa⟩ : ∃ y, y = wr.alloc (.cells #[.int .i64 x.idx, .int .i64 x.trm, .int .i64 x.knd, .slice x.ba x.bd.length x.bc] 28) := ⟨_, rfl⟩
      rw [← hwa] at HXB0 HBA hgs
      rw [← hwa]
      rw [← hgx] at HXB0 hgs
      rw [← hgx]
      have hgl : wr.heap.size ≤ gx := by omega
      have hgl2 : gx < wa.heap.size := by omega
      clear hwa hgx hgs k0 k1 k2 k3
      obtain ⟨ka, fa, za⟩ := HXB0.out.facts
      go_upto_region 5 with (go_at_call 100; refine (cloneBytes x.bd _ wa (HE.out.1.1.later (below_call HB.out HBA.out)) HE.out.2).mono ?_; rintro e w3 ⟨A2, c2, rfl, ho, hb⟩; have HO2 := Lib.hid ho; have HB2 := Lib.hid hb; obtain ⟨kb, fb, zb⟩ := (HXB0.out.later hb).facts; clear ho hb ka fa za)
      have HX3 := Lib.hid ((HXB0.out.later HB2.out).set_ 3 (.slice A2 x.bd.length c2))
      have HB3 := Lib.hid (below_set (i := 3) (u := .slice A2 x.bd.length c2) (below_call HBA.out HB2.out) hgl)
      have HO3 := Lib.hid (HO2.out.set_below (i := 3) (u := .slice A2 x.bd.length c2) hgl2)
      have hw3 : wa.heap.size ≤ w3.heap.size := HB2.out.size
      obtain ⟨w4, hw4⟩ : ∃ y, y = w3.setCell ⟨gx, 3, none⟩ (.slice A2 x.bd.length c2) := ⟨_, rfl⟩
      have hs4 : w4.heap.size = w3.heap.size := by rw [hw4]; simp
      rw [← hw4] at HX3 HB3 HO3
      rw [← hw4]
      clear hw4 kb fb zb
      obtain ⟨kc, fc, zc⟩ := HX3.out.facts
      have HOr := Lib.hid (HO.out.later HB3.out)
      have hbz : w.heap.size ≤ w4.heap.size := by omega
      have HS4 := Lib.hid hs4
      clear hs4
      go_wp2_with (at_builtin; refine wpList_append_keepH1 _ rfl (.tmp 15) (.tmp 17) 31 rfl w.heap.size 28 _ 4 48 Tryz.underlying31 entInfo rfl (Nat.succ_pos 3) entRow entRow_length entRow_one m _ rfl HOr.out.h ⟨x.idx, x.trm, x.knd, A2, c2, x.bd⟩ _ rfl 28 _ rfl rfl (by rw [hml.out]; omega) (by omega) hbz ?_; intro g7 c7 w7 p1 p2 p3 p4 p5 p6 p7; rw [hml.out] at p1; rw [hml.out]; have HP1 := Lib.hid p1; have HP3 := Lib.hid p3; have HP4 := Lib.hid p4; have HP5 := Lib.hid p5; have HP7 := Lib.hid p7; clear p1 p2 p3 p4 p5 p6 p7)
      go_roundw
      case rel =>
        have hs4 := HS4.out
        have hold : ∀ (i : Nat) (y : Ent), m[i]? = some y → ∀ q, y.bv.ownBlock = some q → w7.heap[q]? = wr.heap[q]? := fun i y hy q hq => by
          have hb := (HF.out.own i y hy).block hq
          have hne : some q ≠ blkH (.slice A k c) := fun he => by
            by_cases hbq : blkH y.bv = some q
            · exact HF.out.out i y hy q hbq he.symm
            · have hol := HO.out
              obtain ⟨hz1, hz2⟩ := hol.block (blkH_own he.symm)
              have hy0 : OwnH 1 u8Row 5 w.heap.size wr y.bv y.bd := (HF.out.own i y hy).h
              rcases (HF.out.own i y hy).2 with ⟨hv, _⟩ | ⟨gq, cq, cur, hv, _, hh, _, _, hs, _⟩
              · rw [hv] at hq; simp [Value.ownBlock] at hq
              · rcases hol.2 with ⟨hv2, _⟩ | ⟨g2, c2', cur2, hv2, _, hh2, _⟩
                · rw [hv2] at he; simp [blkH] at he
                · have e1 : gq = q := by rw [hv] at hq; simpa [Value.ownBlock] using hq
                  have e2 : g2 = q := by
                    have h9 := blkH_own he.symm
                    rw [hv2] at h9; simpa [Value.ownBlock] using h9
                  subst e1; subst e2
                  rw [hh] at hh2
                  simp only [Option.some.injEq, Obj.cells.injEq] at hh2
                  exact absurd hh2.2.1 (by decide)
          exact (HP4.out q (by have := HB3.out.size; omega) hne).trans (HB3.out.block q hb.2)
        have hbody : Own 1 u8Row 5 w.heap.size w7 (.slice A2 x.bd.length c2) x.bd := (HO3.out.less (by omega)).stay fun q hq => HP4.out q (HO3.out.block hq).2 (fun he => by
          have h1 := HO3.out.block hq
          have h2 := HO.out.block (blkH_own he.symm)
          omega)
        have hnew : ∀ q, blkH (.slice A2 x.bd.length c2) = some q → wa.heap.size ≤ q ∧ q < w4.heap.size := fun q hq => HO3.out.block (blkH_own hq)
        have hlist : ∀ q, blkH (.slice (some ⟨g7, 0, none⟩) (k + 1) c7) = some q → blkH (.slice A k c) = some q ∨ w4.heap.size < q := fun q hq => by
          have e1 : g7 = q := by have := blkH_own hq; simpa [Value.ownBlock] using this
          subst e1; exact HP5.out
        refine ⟨k + 1, m ++ [⟨x.idx, x.trm, x.knd, A2, c2, x.bd⟩], some ⟨g7, 0, none⟩, c7, by omega, by go_num, rfl, ?_, HP1.out, ?_, ?_⟩
        · rw [List.map_append, HK.out, take_at HXx.out, List.map_append]; rfl
        · refine BodFam.snoc (HF.out.stay hold (fun i y hy q hq he => ?_)) hbody (fun i y hy q hq he => ?_) (fun q hq he => ?_)
          · have h1 := HF.out.lt hy hq
            rcases hlist q he with h2 | h2
            · exact HF.out.out i y hy q hq h2
            · have := HB3.out.size; omega
          · have h1 := HF.out.lt hy hq
            have h2 := hnew q he; omega
          · have h1 := hnew q hq
            rcases hlist q he with h2 | h2
            · have h3 := HO.out.block (blkH_own h2); omega
            · omega
        · exact HB.out.trans ((HB3.out.mono hzr).trans (HP3.out))
      case measure => simp [intOf]; omega
    · have d0 : decide ((k : Int) < (l.length : Int)) = false := decide_eq_false (by omega)
      have d0' : decide (k < l.length) = false := decide_eq_false hlt
      have hkl : k = l.length := by omega
      have HKK := Lib.hid (show m.map keyE = l.map keyE by have := HK.out; rw [hkl, List.take_length] at this; exact this)
      subst hkl
      go_wp2_with fail
      go_ret
      exact ⟨A, c, m, rfl, HKK.out, HO.out, HF.out, HB.out⟩
end Go.Proofs.YtfglkpcboodllaaGreatDoor
/-
  WORLD LEMMAS of the closed statements: boxes in a literal world.
-/
set_option linter.unusedVariables false
namespace Go.Proofs.YtfglkpcboodllaaGreatDoor
open Go.RowKit

theorem Box.at_ (w : World) {n : Nat} {cs : Array Value} {t : TypeId} (h : n = w.heap.size) : Box (w.alloc (.cells cs t)) n cs t := by subst h; exact Box.new w cs t
theorem Box.drew_ {w : World} {n : Nat} {cs : Array Value} {t : TypeId} (h : Box w n cs t) : Box w.drew n cs t := h
theorem Box.set4 {w : World} {n : Nat} {a b c d : Value} {t : TypeId} (h : Box w n #[a, b, c, d] t) (x y z u : Value) :
    Box ((((w.setCell ⟨n, 0, none⟩ x).setCell ⟨n, 1, none⟩ y).setCell ⟨n, 2, none⟩ z).setCell ⟨n, 3, none⟩ u) n #[x, y, z, u] t := (((h.set_ 0 x).set_ 1 y).set_ 2 z).set_ 3 u
theorem cell_later {w w' : World} {a : Addr} {v : Value} (hb : Below w.heap.size w w') (h : w.cell? a = some v) : w'.cell? a = some v := by
  have hl : a.block < w.heap.size := by
    unfold World.cell? at h
    by_cases h1 : a.block < w.heap.size
    · exact h1
    · rw [Array.getElem?_eq_none (by omega)] at h; simp at h
  exact (hb.cell hl).trans h
end Go.Proofs.YtfglkpcboodllaaGreatDoor
