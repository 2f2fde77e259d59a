/-
  Merged: PlanEnts, OneRun.
-/
import Derived.Test.YthadfdpdillemaaDoorMo39
import Derived.Test.YthadfdpdillemaaDoorMo26
/-
  limpetlaw20's entries: contract.
-/
set_option linter.unusedVariables false
set_option linter.unusedSimpArgs false
namespace Go.Proofs.YthadfdpdillemaaDoor
open Go.RowKit

/-- A block made of one cell is owned. -/
theorem own_one (u : Int) (w : World) : Own 1 u8Row 5 w.heap.size (w.alloc (.cells #[.int .u8 u] 5)) (.slice (some ⟨w.heap.size, 0, none⟩) 1 1) [u] :=
  ⟨rfl, .inr ⟨w.heap.size, 1, #[.int .u8 u], rfl, Nat.le_refl _, heap_alloc_new w _, Nat.le_refl _, by unfold maxLen; omega, rfl, rfl⟩⟩
set_option maxRecDepth 100000 in
set_option maxHeartbeats 4000000 in
theorem lawEnts (a : Int) (ts : List Int) (v : Value) (w : World) (h : Sl 1 i64Row w.heap.size w v ts) (hn : ts.length ≤ 1000) (ha0 : 0 ≤ a) (ha1 : a ≤ 1099511627776) :
    Calls Tryd.prog 10 #[.int .i64 a, v] w fun e w' => ∃ A c m, e = .returned (.slice A ts.length c) ∧ m.map keyE = entsK a 0 ts ∧ Own 4 entRow 44 w.heap.size w' (.slice A ts.length c) m ∧ BodFam w.heap.size w' (blkH (.slice A ts.length c)) m ∧ Below w.heap.size w w' := by
  obtain ⟨Av, cv, rfl, -⟩ := id h
  have HL := Lib.hid h
  clear h
  go_enter Tryd.func10, Tryd.ntmps10
  go_wp2_with fail
  go_loopw [5, 6] (fun v i wr => ∃ (k : Nat) (m : List Ent) (A : Option Addr) (c : Nat), k ≤ ts.length ∧ i = .int .i64 k ∧ v = .slice A k c ∧ m.map keyE = entsK a 0 (ts.take k) ∧ Own 4 entRow 44 w.heap.size wr (.slice A k c) m ∧ BodFam w.heap.size wr (blkH (.slice A k c)) m ∧ Below w.heap.size w wr) (fun _ i _ => ts.length - (intOf i).toNat)
  case atStart => exact ⟨0, [], none, 0, by omega, rfl, rfl, rfl, Own.nil_ _ _ _ _ _, BodFam.nil_ _ _ _, Below.refl _ _⟩
  case round =>
    obtain ⟨k, m, A, c, hk, rfl, rfl, hkey, hown, hbf, hB⟩ := hrel
    have HB := Lib.hid hB
    have HO := Lib.hid hown
    have HF := Lib.hid hbf
    have HK := Lib.hid hkey
    have hml := Lib.hid (show m.length = k by have := congrArg List.length hkey; simpa [Nat.min_eq_left hk, entsK_length] using this)
    have hzr := hB.size
    clear hB hown hbf hkey
    by_cases hlt : k < ts.length
    · obtain ⟨b, off, cap3, e3, hlc3, hcm3, hb3, hcell⟩ := HL.out.cellAt (by intro h; subst h; simp at hlt)
      simp only [Value.slice.injEq] at e3
      obtain ⟨rfl, -, rfl⟩ := e3
      obtain ⟨x, hx⟩ : ∃ x, ts[k]? = some x := ⟨_, List.getElem?_eq_getElem hlt⟩
      have d0 : decide ((k : Int) < (ts.length : Int)) = true := decide_eq_true (by omega)
      have d0' : decide (k < ts.length) = true := decide_eq_true hlt
      have i0 : (0 : Int) ≤ (k : Int) := by omega
      have i1 : (k : Int) < (ts.length : Int) := by omega
      have w5 : wrap64 (a + 1) = a + 1 := by unfold wrap64; omega
      have w6 : wrap64 (a + 1 + (k : Int)) = a + 1 + (k : Int) := by unfold wrap64; omega
      have e8 : (((k % 256 : Nat)) : Int) = (k : Int) % 256 := by omega
      have k0 : wr.cell? ⟨b, off + k, none⟩ = some (.int .i64 x) := (HB.out.cell (p := ⟨b, off + k, none⟩) hb3).trans (by simpa using hcell k x hx 0 _ rfl)
      have HXx := Lib.hid hx
      have HBY := Lib.hid (own_one ((k : Int) % 256) wr)
      have HBA := Lib.hid (below_new wr (.cells #[.int .u8 ((k : Int) % 256)] 5))
      have HOr := Lib.hid (HO.out.alloc (.cells #[.int .u8 ((k : Int) % 256)] 5))
      have HHZ := Lib.hid (show (wr.alloc (.cells #[.int .u8 ((k : Int) % 256)] 5)).heap.size = wr.heap.size + 1 by simp)
      have hbz : w.heap.size ≤ (wr.alloc (.cells #[.int .u8 ((k : Int) % 256)] 5)).heap.size := by have := HHZ.out; omega
      clear hcell hx
      go_wp2_with (at_builtin; refine wpList_append_keepH1 _ rfl (.tmp 13) (.tmp 26) 31 rfl w.heap.size 44 _ 4 48 Tryd.underlying31 entInfo rfl (Nat.succ_pos 3) entRow entRow_length entRow_one m _ rfl HOr.out.h ⟨a + 1 + (k : Int), x, 2, some ⟨wr.heap.size, 0, none⟩, 1, [(k : Int) % 256]⟩ _ rfl 44 _ rfl HHZ.out.symm (by rw [hml.out]; omega) (by omega) hbz ?_; intro g7 c7 w7 p1 p2 p3 p4 p5 p6 p7; rw [hml.out] at p1; rw [hml.out]; have HP1 := Lib.hid p1; have HP3 := Lib.hid p3; have HP4 := Lib.hid p4; have HP5 := Lib.hid p5; have HP7 := Lib.hid p7; clear p1 p2 p3 p4 p5 p6 p7)
      go_roundw
      case rel =>
        have hz1 := HHZ.out
        have hold : ∀ (i : Nat) (y : Ent), m[i]? = some y → ∀ q, y.bv.ownBlock = some q → w7.heap[q]? = wr.heap[q]? := fun i y hy q hq => by
          have hb := (HF.out.own i y hy).block hq
          have hne : some q ≠ blkH (.slice A k c) := fun he => by
            by_cases hbq : blkH y.bv = some q
            · exact HF.out.out i y hy q hbq he.symm
            · have hol := HO.out
              rcases (HF.out.own i y hy).2 with ⟨hv, _⟩ | ⟨gq, cq, cur, hv, _, hh, _, _, hs, _⟩
              · rw [hv] at hq; simp [Value.ownBlock] at hq
              · rcases hol.2 with ⟨hv2, _⟩ | ⟨g2, c2', cur2, hv2, _, hh2, _⟩
                · rw [hv2] at he; simp [blkH] at he
                · have e1 : gq = q := by rw [hv] at hq; simpa [Value.ownBlock] using hq
                  have e2 : g2 = q := by
                    have h9 := blkH_own he.symm
                    rw [hv2] at h9; simpa [Value.ownBlock] using h9
                  subst e1; subst e2
                  rw [hh] at hh2
                  simp only [Option.some.injEq, Obj.cells.injEq] at hh2
                  exact absurd hh2.2.1 (by decide)
          exact (HP4.out q (by omega) hne).trans (HBA.out.block q hb.2)
        have hbody : Own 1 u8Row 5 w.heap.size w7 (.slice (some ⟨wr.heap.size, 0, none⟩) 1 1) [(k : Int) % 256] := (HBY.out.less hzr).stay fun q hq => HP4.out q (HBY.out.block hq).2 (fun he => by
          have h1 := HBY.out.block hq
          have h2 := HO.out.block (blkH_own he.symm)
          omega)
        have hnew : ∀ q, blkH (.slice (some ⟨wr.heap.size, 0, none⟩) 1 1) = some q → wr.heap.size = q := fun q hq => by
          have := blkH_own hq; simpa [Value.ownBlock] using this
        have hlist : ∀ q, blkH (.slice (some ⟨g7, 0, none⟩) (k + 1) c7) = some q → blkH (.slice A k c) = some q ∨ wr.heap.size + 1 < q := fun q hq => by
          have e1 : g7 = q := by have := blkH_own hq; simpa [Value.ownBlock] using this
          subst e1; have h5 := HP5.out; rw [hz1] at h5; exact h5
        refine ⟨k + 1, m ++ [⟨a + 1 + (k : Int), x, 2, some ⟨wr.heap.size, 0, none⟩, 1, [(k : Int) % 256]⟩], some ⟨g7, 0, none⟩, c7, by omega, by go_num, rfl, ?_, HP1.out, ?_, ?_⟩
        · rw [List.map_append, HK.out, take_at HXx.out, entsK_snoc, List.length_take, Nat.min_eq_left hk, Nat.zero_add, e8]; rfl
        · refine BodFam.snoc (HF.out.stay hold (fun i y hy q hq he => ?_)) hbody (fun i y hy q hq he => ?_) (fun q hq he => ?_)
          · have h1 := HF.out.lt hy hq
            rcases hlist q he with h2 | h2
            · exact HF.out.out i y hy q hq h2
            · omega
          · have h1 := HF.out.lt hy hq
            have h2 := hnew q he; omega
          · have h1 := hnew q hq
            rcases hlist q he with h2 | h2
            · have h3 := HO.out.block (blkH_own h2); omega
            · omega
        · exact HB.out.trans ((HBA.out.mono hzr).trans HP3.out)
      case measure => simp [intOf]; omega
    · have d0 : decide ((k : Int) < (ts.length : Int)) = false := decide_eq_false (by omega)
      have d0' : decide (k < ts.length) = false := decide_eq_false hlt
      have hkl : k = ts.length := by omega
      have HKK := Lib.hid (show m.map keyE = entsK a 0 ts by have := HK.out; rw [hkl, List.take_length] at this; exact this)
      subst hkl
      go_wp2_with fail
      go_ret
      exact ⟨A, c, m, rfl, HKK.out, HO.out, HF.out, HB.out⟩
theorem ents_in {a : Int} {ts : List Int} {m : List Ent} {B : Nat} {w : World} {blk : Option Nat} (hk : m.map keyE = entsK a 0 ts) (hf : BodFam B w blk m) : ∀ x ∈ m, EntIn w.heap.size w x ∧ x.bd.length ≤ 100000 := by
  intro x hx
  obtain ⟨i, hi⟩ := List.getElem?_of_mem hx
  have e : (m.map keyE)[i]? = some (keyE x) := by rw [List.getElem?_map, hi]; rfl
  rw [hk, entsK_at] at e
  cases ho : ts[i]? with
  | none => rw [ho] at e; simp at e
  | some t =>
    rw [ho] at e
    simp only [Option.map_some, Option.some.injEq, keyE, Prod.mk.injEq] at e
    obtain ⟨-, -, -, h4⟩ := e
    have ho := (hf.own i x hi).sl u8Row_length
    refine ⟨⟨?_, fun y hy => ?_⟩, by rw [← h4]; simp⟩
    · exact ho
    · rw [← h4] at hy; simp only [List.mem_singleton] at hy; subst hy; omega
end Go.Proofs.YthadfdpdillemaaDoor
/-
  TWO LOGS OF ONE KIND, turn by turn: plain Lean, no program.
-/
set_option linter.unusedVariables false
namespace Go.Proofs.YthadfdpdillemaaDoor
open Go.RowKit

section
variable {own : List Int} {T : Int} {lead : List Ent} {l : List Idt} {a next turn : Nat}
/-- Where both are one, an append fits. -/
theorem one_fits (hO : OwnI own T) (hL : LeadI own lead) (hn : next ≤ lead.length) (h : OneI own T l a) (hna : next ≤ a) {sh : Int} : fitK zI l sh (prevE lead next).idx (prevE lead next).trm = 0 := by
  have hpi := prevE_idx hL hn
  obtain ⟨ha1, ha2⟩ := h.ha
  have hz0 : zI.idx = 0 := rfl
  by_cases h0 : 0 < next
  · obtain ⟨t, ht, e⟩ := prevE_at hL hn h0
    obtain ⟨p, hp⟩ : ∃ p, l[next - 1]? = some p := ⟨_, List.getElem?_eq_getElem (by omega)⟩
    have hat := h.at hp
    rw [show ((next - 1 : Nat) : Int) + 1 = (next : Int) by omega] at hat
    have e1 := h.near (next - 1) p (by omega) hp
    rw [ht] at e1; injection e1 with e1
    rw [hpi, fitK_some (by rw [hz0]; omega) (by unfold lastI; rw [hz0]; omega) hat, e, if_pos e1.symm]
  · exact fitK_low (by rw [hpi, hz0]; omega)
/-- How many turns there are. -/
def TurnI (lead : List Ent) (a next turn : Nat) : Prop := turn + next ≤ lead.length ∨ (next ≤ a ∧ 3 * turn ≤ 3 * lead.length + next)
theorem turn_lt (hO : OwnI own T) (hL : LeadI own lead) (hn : next ≤ lead.length) (h : TurnI lead a next turn) : turn < 100 := by
  have h1 := hO.len
  have h2 := hL.len
  unfold TurnI at h
  omega
theorem turn_no (hn : next ≤ lead.length) (hO : OwnI own T) (hL : LeadI own lead) (h : OneI own T l a) (ht : TurnI lead a next turn) {sh : Int} (hk : fitK zI l sh (prevE lead next).idx (prevE lead next).trm ≠ 0) {n : Nat} (hlt : n < next) : TurnI lead a n (turn + 1) := by
  rcases ht with ht | ht
  · exact .inl (by omega)
  · exact absurd (one_fits hO hL hn h ht.1) hk
theorem turn_yes (hn : next ≤ lead.length) (ht : TurnI lead a next turn) (hlt : min (next + 3) lead.length < lead.length) {a' : Nat} (ha : a' = max a (min (next + 3) lead.length)) : TurnI lead a' (min (next + 3) lead.length) (turn + 1) := by
  unfold TurnI at ht ⊢
  right
  omega
theorem behV_none (b : Idt) (l : List Idt) (i : Int) : behV b l ⟨i, 0, [], []⟩ = l := by
  unfold behV cutV
  rw [if_neg (by show ¬ (0 : Int) < 0; omega)]
  show setsV b l [] ++ [] = l
  rw [List.append_nil]; rfl
end
end Go.Proofs.YthadfdpdillemaaDoor
