/-
  limpetlaw24's lent, kept: contracts.
-/
import Derived.Test.YtglkgmijhdkhpaaGreatDoorHt33
set_option linter.unusedVariables false
set_option linter.unusedSimpArgs false
namespace Go.Proofs.YtglkgmijhdkhpaaGreatDoor
open Go.RowKit

theorem step_append_keep5 {α : Type} {P : Program} {w : World} {ops : Array Oper} {o : Oper} {a : Act} {K : Act → World → Prop} {Q : Exit → Act → World → Prop} {E : Prop} (hgd : o.guard = none) (s y : Operand) (t : TypeId)
    (ho : o.op = .call { callee := .builtin .append, args := #[s, y], argTypes := #[t, t] })
    (base : Nat) (e : TypeId) (z : Value) (k bytes : Nat) (ht : P.underlying t = some (.slice e)) (hinfo : (P.info? e).map (fun i => (i.zero, i.size, i.bytes)) = some (some z, k, bytes)) (hzs : z.cells.size = k) (hk0 : 0 < k)
    (row : α → List Value) (hrow : ∀ x, (row x).length = k) (hone : ∀ x, ∀ u ∈ row x, u.oneCell' = true)
    (l : List α) (v : Value) (hs : a.eval s = v) (hown : Own k row e base w v l) (x : α) (cells : Array Value) (hcells : cells = (row x).toArray) (e' : TypeId) (n0 : Nat) (hy : a.eval y = .slice (some ⟨n0, 0, none⟩) 1 1) (hn0 : Box w n0 cells e')
    (hlen : l.length + 1 ≤ 4294967296) (hbytes : bytes ≤ 4096) (hbase : base ≤ w.heap.size)
    (h : ∀ g cap w', Own k row e base w' (.slice (some ⟨g, 0, none⟩) (l ++ [x]).length cap) (l ++ [x]) → Below base w w' → base ≤ w'.heap.size → (∀ b, b < w.heap.size → some b ≠ v.ownBlock → w'.heap[b]? = w.heap[b]?) → (v.ownBlock = some g ∨ g = w.heap.size) → K (a.put o.dst (.slice (some ⟨g, 0, none⟩) (l ++ [x]).length cap)) w') :
    if Region.wanted o (yielded ops a.tmps) = true then Oper.wp P o a w K Q else E := by
  obtain ⟨i, hi, hz, hsz, hby⟩ := info_parts hinfo
  subst hcells
  refine step_append_lies w hgd s y t ho base e i z k bytes ht hi hz hsz hby hzs hk0 v l.length (l.flatMap row) hs hown ⟨n0, 0, none⟩ 1 1 (row x) hy (by simp [hrow]) (fun j u hu => World.news_of_block hn0 j u (by simpa using hu)) (hone x) (by omega) (by unfold maxLen; omega) ?_ hbase w.heap.size rfl ?_
  · calc (l.length + 1) * bytes ≤ 4294967296 * 4096 := Nat.mul_le_mul hlen hbytes
      _ ≤ 140737488355328 := by omega
  · intro g cap w' h1 h2 h3 h4
    have hb : ∀ g, v.ownBlock = some g → base ≤ g := fun g hg => (World.ownsRow.lt hown g hg).1
    have hB := (Below.refl base w).grown h2 hbase hb
    have e1 : (l ++ [x]).length = l.length + 1 := by simp
    have := h g cap w' (by unfold Own; rw [List.flatMap_append, e1]; simpa using h1) hB (Nat.le_trans hbase hB.size) (fun b hb' hne => h2.block b hb' hne) h3
    rw [e1] at this
    exact this

set_option maxRecDepth 100000 in
set_option maxHeartbeats 4000000 in
theorem lent24 (l : List Rec) (v : Value) (w : World) (h : Sl 7 recRow w.heap.size w v l) (hin : ∀ r ∈ l, EntIn w.heap.size w r.e ∧ r.e.bd.length ≤ 100000) (hn : l.length ≤ 100000) :
    Calls Tryz.prog 8 #[v] w fun e w' => ∃ A c m, e = .returned (.slice A l.length c) ∧ m.map nrmR = l.map nrmR ∧ Own 7 recRow 56 w.heap.size w' (.slice A l.length c) m ∧ (∀ x ∈ m, Lnt 1 u8Row marksB w'.heap.size w' x.e.bv x.e.bd) ∧ Below w.heap.size w w' := by
  obtain ⟨A, c, rfl, -, -, -, hA⟩ := h
  have HA := Lib.hid hA
  have HIN := Lib.hid hin
  clear hA hin
  go_enter Tryz.func8, Tryz.ntmps8
  go_wp2_with fail
  go_loopw [3, 4] (fun o i wr => ∃ (k : Nat) (ov : Value) (m : List Rec), ov = o ∧ k ≤ l.length ∧ i = .int .i64 (k : Int) ∧ m.map nrmR = (l.take k).map nrmR ∧ Own 7 recRow 56 w.heap.size wr ov m ∧ (∀ x ∈ m, BodIn w.heap.size ov wr x.e) ∧ Below w.heap.size w wr) (fun _ i _ => l.length - (kOf i).toNat)
  case atStart => exact ⟨0, _, [], rfl, by omega, rfl, rfl, Own.nil_ _ _ _ _ _, fun x hx => (by cases hx), Below.refl _ _⟩
  case round =>
    obtain ⟨k, ov, m, rfl, hk, rfl, hm, ho, hd, hb⟩ := hrel
    have HM := Lib.hid hm
    have HO := Lib.hid ho
    have HD := Lib.hid hd
    have HB := Lib.hid hb
    have hz := hb.size
    have i0 : (0 : Int) ≤ (k : Int) := by omega
    have hml : m.length = k := by have := congrArg List.length hm; rw [List.length_map, List.length_map, List.length_take] at this; omega
    clear hm ho hd hb
    by_cases hlt : k < l.length
    · have i1 : (k : Int) < (l.length : Int) := by omega
      have d0 : decide ((k : Int) < (l.length : Int)) = true := decide_eq_true i1
      obtain ⟨b, off, rfl, hbb, hcell⟩ := HA.out (by intro h; subst h; simp at hlt)
      obtain ⟨x, hx⟩ : ∃ x, l[k]? = some x := ⟨_, List.getElem?_eq_getElem hlt⟩
      obtain ⟨xi, xn⟩ := HIN.out x (List.mem_of_getElem? hx)
      have HXI := Lib.hid xi
      have CL : Hid (∀ V, Below w.heap.size w V → Calls Tryz.prog 29 #[.agg #[.int .i64 x.e.idx, .int .i64 x.e.trm, .int .i64 x.e.knd, .slice x.e.ba x.e.bd.length x.e.bc]] V fun e w' => ∃ g cp, e = .returned (.agg #[.int .i64 x.e.idx, .int .i64 x.e.trm, .int .i64 x.e.knd, .slice (some ⟨g, 0, none⟩) x.e.bd.length cp]) ∧ V.heap.size ≤ g ∧ g < w'.heap.size ∧ Lnt 1 u8Row marksB w'.heap.size w' (.slice (some ⟨g, 0, none⟩) x.e.bd.length cp) x.e.bd ∧ Below V.heap.size V w') := fun V hV => lentEntry x.e V (HXI.out.later hV).1 (by omega)
      have HF : Hid (∀ w', Below w.heap.size w w' → w'.cell? ⟨b, off + k * 7, none⟩ = some (.int .i64 x.e.idx) ∧ w'.cell? ⟨b, off + k * 7 + 1, none⟩ = some (.int .i64 x.e.trm) ∧ w'.cell? ⟨b, off + k * 7 + 2, none⟩ = some (.int .i64 x.e.knd) ∧ w'.cell? ⟨b, off + k * 7 + 3, none⟩ = some (.slice x.e.ba x.e.bd.length x.e.bc) ∧ w'.cell? ⟨b, off + k * 7 + 4, none⟩ = some (.int .i64 x.a.idx) ∧ w'.cell? ⟨b, off + k * 7 + 5, none⟩ = some (.int .i64 x.a.trm) ∧ w'.cell? ⟨b, off + k * 7 + 6, none⟩ = some (.int .i64 x.a.knd) ∧ Below w.heap.size w w') :=
        fun w' q => ⟨(q.cell (p := ⟨b, off + k * 7, none⟩) hbb).trans (hcell k x hx 0 _ rfl), (q.cell (p := ⟨b, off + k * 7 + 1, none⟩) hbb).trans (hcell k x hx 1 _ rfl), (q.cell (p := ⟨b, off + k * 7 + 2, none⟩) hbb).trans (hcell k x hx 2 _ rfl), (q.cell (p := ⟨b, off + k * 7 + 3, none⟩) hbb).trans (hcell k x hx 3 _ rfl), (q.cell (p := ⟨b, off + k * 7 + 4, none⟩) hbb).trans (hcell k x hx 4 _ rfl), (q.cell (p := ⟨b, off + k * 7 + 5, none⟩) hbb).trans (hcell k x hx 5 _ rfl), (q.cell (p := ⟨b, off + k * 7 + 6, none⟩) hbb).trans (hcell k x hx 6 _ rfl), q⟩
      have HT := Lib.hid (take_at hx)
      clear hcell hx xi
      go_upto_region 5 with fail
      go_region_held3 (fun w' => w'.cell? ⟨b, off + k * 7, none⟩ = some (.int .i64 x.e.idx) ∧ w'.cell? ⟨b, off + k * 7 + 1, none⟩ = some (.int .i64 x.e.trm) ∧ w'.cell? ⟨b, off + k * 7 + 2, none⟩ = some (.int .i64 x.e.knd) ∧ w'.cell? ⟨b, off + k * 7 + 3, none⟩ = some (.slice x.e.ba x.e.bd.length x.e.bc) ∧ w'.cell? ⟨b, off + k * 7 + 4, none⟩ = some (.int .i64 x.a.idx) ∧ w'.cell? ⟨b, off + k * 7 + 5, none⟩ = some (.int .i64 x.a.trm) ∧ w'.cell? ⟨b, off + k * 7 + 6, none⟩ = some (.int .i64 x.a.knd) ∧ Below w.heap.size w w')
        (first | exact HF.out _ HB.out.drew | exact HF.out _ PA | exact HF.out _ (PA.alloc hz5 _) | exact HF.out _ ((PA.alloc hz5 _).trans p2))
        (first
          | (go_at_call 29; (with_reducible refine (CL.out _ HB.out.drew).mono ?_); rintro e w5 ⟨g5, cp5, rfl, hg5, hg6, hl5, hb5⟩; have PA : Below w.heap.size w w5 := HB.out.drew.trans (hb5.mono hz); have hz5 : w.heap.size ≤ w5.heap.size := PA.size)
          | (refine step_append_keep5 (by rfl) _ _ _ (by rfl) w.heap.size 56 _ 7 72 Tryz.underlying23 recInfo rfl (by omega) recRow recRow_length recRow_one _ _ (by rfl) ((HO.out.drew.later hb5).alloc _) (⟨⟨x.e.idx, x.e.trm, x.e.knd, some ⟨g5, 0, none⟩, cp5, x.e.bd⟩, x.a⟩ : Rec) _ (by rfl) 56 w5.heap.size (by rfl) (heap_alloc_new w5 _) (by omega) (by omega) (by simp; omega) ?_; intro g cp w7 p1 p2 p3 p4 p5))
      have hgl2 : (m ++ [(⟨⟨x.e.idx, x.e.trm, x.e.knd, some ⟨g5, 0, none⟩, cp5, x.e.bd⟩, x.a⟩ : Rec)]).length = k + 1 := by rw [List.length_append, hml]; rfl
      rw [hgl2]
      rw [hgl2] at p1
      have HP := Lib.hid p1
      have HP4 := Lib.hid p4
      have HP5 := Lib.hid p5
      have HB7 := Lib.hid ((PA.alloc hz5 _).trans p2)
      have HB5 := Lib.hid hb5
      have HL5 := Lib.hid hl5
      have hz57 : w5.heap.size ≤ w7.heap.size := Nat.le_trans (by simp) p2.size
      have hg5' := hg5
      have hg6' := hg6
      clear p1 p2 p3 p4 p5 hgl2 PA hb5 hl5 hg5 hg6
      go_wp2_with fail
      go_roundw
      case rel =>
        have h5s := HB5.out.size
        have hs5 : wr.heap.size ≤ w5.heap.size := h5s
        have hsz : (w5.alloc (.cells (recRow (⟨⟨x.e.idx, x.e.trm, x.e.knd, some ⟨g5, 0, none⟩, cp5, x.e.bd⟩, x.a⟩ : Rec)).toArray 56)).heap.size = w5.heap.size + 1 := World.size_alloc _ _
        have h7s := hz57
        have HKK : ∀ q, q < w5.heap.size → some q ≠ ov.ownBlock → w7.heap[q]? = w5.heap[q]? := fun q hq hne => (HP4.out q (Nat.lt_of_lt_of_le hq (by simp)) hne).trans (Below.heap_alloc w5 _ q hq)
        have HVV : ∀ q, q < w5.heap.size → some q ≠ ov.ownBlock → some q ≠ (Value.slice (some ⟨g, 0, none⟩) (k + 1) cp).ownBlock := fun q hq hne he => by
          have e1 : q = g := Option.some.inj he
          rcases HP5.out with h | h
          · exact hne (by rw [e1]; exact h.symm)
          · have : (w5.alloc (.cells (recRow (⟨⟨x.e.idx, x.e.trm, x.e.knd, some ⟨g5, 0, none⟩, cp5, x.e.bd⟩, x.a⟩ : Rec)).toArray 56)).heap.size = w5.heap.size + 1 := World.size_alloc _ _
            have h9 : g = w5.heap.size + 1 := h.trans this
            omega
        refine ⟨k + 1, .slice (some ⟨g, 0, none⟩) (k + 1) cp, m ++ [(⟨⟨x.e.idx, x.e.trm, x.e.knd, some ⟨g5, 0, none⟩, cp5, x.e.bd⟩, x.a⟩ : Rec)], rfl, by omega, by go_num, ?_, HP.out, ?_, HB7.out⟩
        · rw [HT.out, List.map_append, List.map_append, HM.out]; rfl
        · intro y hy
          rcases List.mem_append.1 hy with hy | hy
          · have h1 : BodIn w.heap.size ov w5 y.e := (HD.out y hy).step (fun q hq _ => HB5.out.block q hq) hs5 (fun q hq hne => hne)
            exact h1.step HKK h7s HVV
          · rw [List.mem_singleton.1 hy]
            have h1 : BodIn w.heap.size ov w5 ⟨x.e.idx, x.e.trm, x.e.knd, some ⟨g5, 0, none⟩, cp5, x.e.bd⟩ := ⟨g5, rfl, Nat.le_trans hz hg5', hg6', fun he => by
              have h8 := (HO.out.block he.symm).2
              have h9 : wr.heap.size ≤ g5 := hg5'
              omega, HL5.out⟩
            exact h1.step HKK h7s HVV
      case measure => first | (simp [kOf]; done) | (simp [kOf]; omega)
    · have d0 : decide ((k : Int) < (l.length : Int)) = false := decide_eq_false (by omega)
      have hke : k = l.length := by omega
      have HFM := Lib.hid (show m.map nrmR = l.map nrmR by have h := HM.out; rw [hke, List.take_length] at h; exact h)
      obtain ⟨A9, c9, hv9⟩ := HO.out.len
      rw [hml, hke] at hv9
      subst hv9
      clear hke hml
      go_wp2_with fail
      go_ret
      exact ⟨A9, c9, m, rfl, HFM.out, HO.out, fun y hy => (HD.out y hy).choose_spec.2.2.2.2, HB.out⟩

set_option maxRecDepth 100000 in
set_option maxHeartbeats 4000000 in
theorem kept24 (l m : List Rec) (v v' : Value) (w : World) (hkey : m.map nrmR = l.map nrmR) (h : Sl 7 recRow w.heap.size w v m) (h' : Sl 7 recRow w.heap.size w v' l) (hb : ∀ x ∈ m, Lnt 1 u8Row marksB w.heap.size w x.e.bv x.e.bd) (hin : ∀ r ∈ l, EntIn w.heap.size w r.e ∧ r.e.bd.length ≤ 100000) :
    Calls Tryz.prog 23 #[v, v'] w fun e w' => e = .returned (.bool true) ∧ Below w.heap.size w w' := by
  have hlm : m.length = l.length := by have := congrArg List.length hkey; simpa using this
  obtain ⟨A, c, rfl, -, -, -, hA⟩ := h
  obtain ⟨A', c', rfl, hlc, hcm, -, hA'⟩ := h'
  have hn : l.length ≤ 9223372036854775807 := by unfold maxLen at hcm; omega
  rw [hlm]
  have HLM := Lib.hid hlm
  have HA := Lib.hid hA
  have HA' := Lib.hid hA'
  have HK := Lib.hid hkey
  have HY := Lib.hid hb
  have HIN := Lib.hid hin
  clear hA hA' hcm hlc hkey hb hin hlm
  go_enter Tryz.func23, Tryz.ntmps23
  go_wp2_with fail
  go_loopw [5] (fun i wr => ∃ k : Nat, k ≤ l.length ∧ i = .int .i64 (k : Int) ∧ Below w.heap.size w wr) (fun i _ => l.length - (kOf i).toNat)
  case atStart => exact ⟨0, by omega, rfl, Below.refl _ _⟩
  case round =>
    obtain ⟨k, hk, rfl, hb⟩ := hrel
    have HB := Lib.hid hb
    have i0 : (0 : Int) ≤ (k : Int) := by omega
    clear hb
    by_cases hlt : k < l.length
    · have i1 : (k : Int) < (l.length : Int) := by omega
      have d0 : decide ((k : Int) < (l.length : Int)) = true := decide_eq_true i1
      have d0n : decide (k < l.length) = true := decide_eq_true hlt
      obtain ⟨b2, off2, rfl, hbb2, hcell2⟩ := HA.out (by intro h; have := HLM.out; rw [h] at this; simp at this; omega)
      obtain ⟨b, off, rfl, hbb, hcell⟩ := HA'.out (by intro h; subst h; simp at hlt)
      obtain ⟨x, hx⟩ : ∃ x, l[k]? = some x := ⟨_, List.getElem?_eq_getElem hlt⟩
      obtain ⟨y, hy, e1, e2, e3, e4, e5⟩ := nrm_at HK.out.symm hx
      have kx0 : ∀ z : Ext wr, z.wd.cell? ⟨b, off + k * 7, none⟩ = some (.int .i64 x.e.idx) := fun z => (((HB.out.trans (z.low.mono HB.out.size)).cell (p := ⟨b, off + k * 7 + 0, none⟩) hbb).trans (hcell k x hx 0 _ rfl))
      have kx1 : ∀ z : Ext wr, z.wd.cell? ⟨b, off + k * 7 + 1, none⟩ = some (.int .i64 x.e.trm) := fun z => (((HB.out.trans (z.low.mono HB.out.size)).cell (p := ⟨b, off + k * 7 + 1, none⟩) hbb).trans (hcell k x hx 1 _ rfl))
      have kx2 : ∀ z : Ext wr, z.wd.cell? ⟨b, off + k * 7 + 2, none⟩ = some (.int .i64 x.e.knd) := fun z => (((HB.out.trans (z.low.mono HB.out.size)).cell (p := ⟨b, off + k * 7 + 2, none⟩) hbb).trans (hcell k x hx 2 _ rfl))
      have kx3 : ∀ z : Ext wr, z.wd.cell? ⟨b, off + k * 7 + 3, none⟩ = some (.slice x.e.ba x.e.bd.length x.e.bc) := fun z => (((HB.out.trans (z.low.mono HB.out.size)).cell (p := ⟨b, off + k * 7 + 3, none⟩) hbb).trans (hcell k x hx 3 _ rfl))
      have kx4 : ∀ z : Ext wr, z.wd.cell? ⟨b, off + k * 7 + 4, none⟩ = some (.int .i64 x.a.idx) := fun z => (((HB.out.trans (z.low.mono HB.out.size)).cell (p := ⟨b, off + k * 7 + 4, none⟩) hbb).trans (hcell k x hx 4 _ rfl))
      have kx5 : ∀ z : Ext wr, z.wd.cell? ⟨b, off + k * 7 + 5, none⟩ = some (.int .i64 x.a.trm) := fun z => (((HB.out.trans (z.low.mono HB.out.size)).cell (p := ⟨b, off + k * 7 + 5, none⟩) hbb).trans (hcell k x hx 5 _ rfl))
      have kx6 : ∀ z : Ext wr, z.wd.cell? ⟨b, off + k * 7 + 6, none⟩ = some (.int .i64 x.a.knd) := fun z => (((HB.out.trans (z.low.mono HB.out.size)).cell (p := ⟨b, off + k * 7 + 6, none⟩) hbb).trans (hcell k x hx 6 _ rfl))
      have ky0 : ∀ z : Ext wr, z.wd.cell? ⟨b2, off2 + k * 7, none⟩ = some (.int .i64 x.e.idx) := fun z => (((HB.out.trans (z.low.mono HB.out.size)).cell (p := ⟨b2, off2 + k * 7 + 0, none⟩) hbb2).trans (hcell2 k y hy 0 _ rfl)).trans (by rw [e1])
      have ky1 : ∀ z : Ext wr, z.wd.cell? ⟨b2, off2 + k * 7 + 1, none⟩ = some (.int .i64 x.e.trm) := fun z => (((HB.out.trans (z.low.mono HB.out.size)).cell (p := ⟨b2, off2 + k * 7 + 1, none⟩) hbb2).trans (hcell2 k y hy 1 _ rfl)).trans (by rw [e2])
      have ky2 : ∀ z : Ext wr, z.wd.cell? ⟨b2, off2 + k * 7 + 2, none⟩ = some (.int .i64 x.e.knd) := fun z => (((HB.out.trans (z.low.mono HB.out.size)).cell (p := ⟨b2, off2 + k * 7 + 2, none⟩) hbb2).trans (hcell2 k y hy 2 _ rfl)).trans (by rw [e3])
      have ky3 : ∀ z : Ext wr, z.wd.cell? ⟨b2, off2 + k * 7 + 3, none⟩ = some (.slice y.e.ba x.e.bd.length y.e.bc) := fun z => (((HB.out.trans (z.low.mono HB.out.size)).cell (p := ⟨b2, off2 + k * 7 + 3, none⟩) hbb2).trans (hcell2 k y hy 3 _ rfl)).trans (by rw [e4])
      have ky4 : ∀ z : Ext wr, z.wd.cell? ⟨b2, off2 + k * 7 + 4, none⟩ = some (.int .i64 x.a.idx) := fun z => (((HB.out.trans (z.low.mono HB.out.size)).cell (p := ⟨b2, off2 + k * 7 + 4, none⟩) hbb2).trans (hcell2 k y hy 4 _ rfl)).trans (by rw [e5])
      have ky5 : ∀ z : Ext wr, z.wd.cell? ⟨b2, off2 + k * 7 + 5, none⟩ = some (.int .i64 x.a.trm) := fun z => (((HB.out.trans (z.low.mono HB.out.size)).cell (p := ⟨b2, off2 + k * 7 + 5, none⟩) hbb2).trans (hcell2 k y hy 5 _ rfl)).trans (by rw [e5])
      have ky6 : ∀ z : Ext wr, z.wd.cell? ⟨b2, off2 + k * 7 + 6, none⟩ = some (.int .i64 x.a.knd) := fun z => (((HB.out.trans (z.low.mono HB.out.size)).cell (p := ⟨b2, off2 + k * 7 + 6, none⟩) hbb2).trans (hcell2 k y hy 6 _ rfl)).trans (by rw [e5])
      have CS : Hid (∀ z : Ext wr, Calls Tryz.prog 51 #[.agg #[.int .i64 x.e.idx, .int .i64 x.e.trm, .int .i64 x.e.knd, .slice y.e.ba x.e.bd.length y.e.bc], .agg #[.int .i64 x.e.idx, .int .i64 x.e.trm, .int .i64 x.e.knd, .slice x.e.ba x.e.bd.length x.e.bc]] z.wd fun e w' => e = .returned (.bool true) ∧ Below z.wd.heap.size z.wd w') := fun z => by
        have h2 := HY.out y (List.mem_of_getElem? hy)
        unfold Ent.bv at h2
        rw [e4] at h2
        have h3 := HIN.out x (List.mem_of_getElem? hx)
        exact keptEntry x.e y.e.ba y.e.bc z.wd (h2.later (HB.out.trans (z.low.mono HB.out.size))) (h3.1.later (HB.out.trans (z.low.mono HB.out.size))).1 (by omega)
      clear hcell hcell2 hx hy e1 e2 e3 e4 e5
      go_upto_region 4 with fail
      refine wp_region_ext (by kernel_rfl) (by kernel_rfl) ?_
      repeat (go_big_quiet_step ((rename_i x5; have h5 := x5.low; first
        | (go_at_call 51; exact ext_of x5 (CS.out x5)))))
      refine wpQuiet_nil ?_
      intro _ hw'
      obtain ⟨x9, hw''⟩ := hw'
      subst hw''
      go_wp2_with fail
      go_roundw
      case rel => exact ⟨k + 1, by omega, by go_num, HB.out.trans (x9.low.mono HB.out.size)⟩
      case measure => first | (simp [kOf]; done) | (simp [kOf]; omega)
    · have d0 : decide ((k : Int) < (l.length : Int)) = false := decide_eq_false (by omega)
      have d0n : decide (k < l.length) = false := decide_eq_false hlt
      go_wp2_with fail
      go_ret
      exact ⟨rfl, HB.out⟩

end Go.Proofs.YtglkgmijhdkhpaaGreatDoor
