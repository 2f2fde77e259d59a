/-
  slices.Clone of entries; match's plan: contracts.
-/
import Derived.Test.YtfglkpcboodllaaGreatDoorMr16
import Derived.Test.YtfglkpcboodllaaGreatDoorMr17
set_option linter.unusedVariables false
set_option linter.unusedSimpArgs false
namespace Go.Proofs.YtfglkpcboodllaaGreatDoor
open Go.RowKit

theorem bodyPost_with {P : Program} {f : Func} {Q : Ending → World → Prop} {x : Exit} {a : Act} {W : World} (S : World → Prop) (hS : S W) (k : ∀ W', S W' → bodyPost P f Q x a W') : bodyPost P f Q x a W := k W hS
theorem Own.set5b {α : Type} {k : Nat} {row : α → List Value} {e : TypeId} {base n : Nat} {w : World} {v : Value} {l : List α} (h : Own k row e base w v l) (hn : n < base) (x y z u t : Value) :
    Own k row e base (((((w.setCell ⟨n, 0, none⟩ x).setCell ⟨n, 1, none⟩ y).setCell ⟨n, 2, none⟩ z).setCell ⟨n, 3, none⟩ u).setCell ⟨n, 4, none⟩ t) v l := ((((h.set_below hn).set_below hn).set_below hn).set_below hn).set_below hn

/-- 'out = append(out, x)' at a step of a region that draws, with what stays. -/
theorem step_append_keep {α : Type} {P : Program} {w : World} {ops : Array Oper} {o : Oper} {a : Act} {K : Act → World → Prop} {Q : Exit → Act → World → Prop} {E : Prop} (hgd : o.guard = none) (s y : Operand) (t : TypeId)
    (ho : o.op = .call { callee := .builtin .append, args := #[s, y], argTypes := #[t, t] })
    (base : Nat) (e : TypeId) (z : Value) (k bytes : Nat) (ht : P.underlying t = some (.slice e)) (hinfo : (P.info? e).map (fun i => (i.zero, i.size, i.bytes)) = some (some z, k, bytes)) (hzs : z.cells.size = k) (hk0 : 0 < k)
    (row : α → List Value) (hrow : ∀ x, (row x).length = k) (hone : ∀ x, ∀ u ∈ row x, u.oneCell' = true)
    (l : List α) (v : Value) (hs : a.eval s = v) (hown : Own k row e base w v l) (x : α) (cells : Array Value) (hcells : cells = (row x).toArray) (e' : TypeId) (n0 : Nat) (hy : a.eval y = .slice (some ⟨n0, 0, none⟩) 1 1) (hn0 : Box w n0 cells e')
    (hlen : l.length + 1 ≤ 4294967296) (hbytes : bytes ≤ 4096) (hbase : base ≤ w.heap.size)
    (h : ∀ g cap w', Own k row e base w' (.slice (some ⟨g, 0, none⟩) (l ++ [x]).length cap) (l ++ [x]) → Below base w w' → base ≤ w'.heap.size → (∀ b, b < w.heap.size → some b ≠ v.ownBlock → w'.heap[b]? = w.heap[b]?) → K (a.put o.dst (.slice (some ⟨g, 0, none⟩) (l ++ [x]).length cap)) w') :
    if Region.wanted o (yielded ops a.tmps) = true then Oper.wp P o a w K Q else E := by
  obtain ⟨i, hi, hz, hsz, hby⟩ := info_parts hinfo
  subst hcells
  refine step_append_lies w hgd s y t ho base e i z k bytes ht hi hz hsz hby hzs hk0 v l.length (l.flatMap row) hs hown ⟨n0, 0, none⟩ 1 1 (row x) hy (by simp [hrow]) (fun j u hu => World.news_of_block hn0 j u (by simpa using hu)) (hone x) (by omega) (by unfold maxLen; omega) ?_ hbase w.heap.size rfl ?_
  · calc (l.length + 1) * bytes ≤ 4294967296 * 4096 := Nat.mul_le_mul hlen hbytes
      _ ≤ 140737488355328 := by omega
  · intro g cap w' h1 h2 h3 h4
    have hb : ∀ g, v.ownBlock = some g → base ≤ g := fun g hg => (World.ownsRow.lt hown g hg).1
    have hB := (Below.refl base w).grown h2 hbase hb
    have e1 : (l ++ [x]).length = l.length + 1 := by simp
    have := h g cap w' (by unfold Own; rw [List.flatMap_append, e1]; simpa using h1) hB (Nat.le_trans hbase hB.size) (fun b hb' hne => h2.block b hb' hne)
    rw [e1] at this
    exact this

set_option maxRecDepth 100000 in
set_option maxHeartbeats 1000000 in
/-- A copy of a row of entries: in memory of its own; the bodies are shared. -/
theorem cloneEnts (l : List Ent) (v : Value) (w : World) (h : Sl 4 entRow w.heap.size w v l) (hn : l.length ≤ 100000) :
    Calls Tryz.prog 125 #[v] w fun e w' => ∃ A c, e = .returned (.slice A l.length c) ∧ Own 4 entRow 28 w.heap.size w' (.slice A l.length c) l ∧ Below w.heap.size w w' := by
  obtain ⟨A, cap, rfl, hlc, hcm, hN, hA⟩ := id h
  have HH := Lib.hid h
  have q23 : ∀ (w : World) (a : Option Addr) (n c n' c' : Nat), (binOp .eql 31 (.slice a n c) (.slice none n' c')).run Tryz.prog w = .ok (.bool a.isNone) w := fun w a n c n' c' => Lib.run_eql_slice_nil w _ _ a n c n' c' Tryz.underlying31
  cases A with
  | none =>
    have hc : cap = 0 := hN rfl
    have h0 : l = [] := List.eq_nil_of_length_eq_zero (by omega)
    subst h0; subst hc
    clear h hA hN
    go_enter Tryz.func125, Tryz.ntmps125
    go_wp2_with fail
    go_ret
    exact ⟨none, 0, rfl, Own.nil_ _ _ _ _ _, Below.refl _ _⟩
  | some ad =>
    clear h hA hN hlc hcm
    go_enter Tryz.func125, Tryz.ntmps125
    go_wp2_with (at_builtin; refine wpList_append_all _ rfl (.tmp 5) (.tmp 6) 31 rfl w.heap.size 28 _ 4 48 Tryz.underlying31 entInfo rfl (Nat.succ_pos 3) entRow entRow_length entRow_one [] _ rfl (Own.made 4 entRow 28 w) l w.heap.size _ (HH.out.below (below_new _ _)) rfl (by unfold maxLen; simp; omega) (by simp; omega) (by simp) ?_; intro v' w' h1 h2 h3 h4 h5; have HO := Lib.hid h1; have HB2 := Lib.hid ((below_new w (.cells #[] 28)).trans h2); clear h2 h3 h4 h5)
    obtain ⟨A2, c2, hv⟩ := HO.out.len
    go_ret
    rw [List.nil_append] at hv
    subst hv
    exact ⟨A2, c2, rfl, by have h := HO.out; rwa [List.nil_append] at h, HB2.out⟩

def PlanPost (q : Pln) (w : World) (e : Ending) (w' : World) : Prop :=
  ∃ A1 c1 A2 c2, e = .returned (.agg #[.bool true, .int .i64 q.idx, .int .i64 q.cut, .slice A1 q.same.length c1, .slice A2 q.add.length c2]) ∧ Own 4 entRow 28 w.heap.size w' (.slice A1 q.same.length c1) q.same ∧ Own 4 entRow 28 w.heap.size w' (.slice A2 q.add.length c2) q.add ∧ Below w.heap.size w w'
theorem planPost_mk {q q' : Pln} {w w' : World} {A1 A2 : Option Addr} {c1 c2 : Nat} (hq : q = q') (h1 : Own 4 entRow 28 w.heap.size w' (.slice A1 q'.same.length c1) q'.same) (h2 : Own 4 entRow 28 w.heap.size w' (.slice A2 q'.add.length c2) q'.add) (hb : Below w.heap.size w w') :
    PlanPost q w (.returned (.agg #[.bool true, .int .i64 q'.idx, .int .i64 q'.cut, .slice A1 q'.same.length c1, .slice A2 q'.add.length c2])) w' := by subst hq; exact ⟨A1, c1, A2, c2, rfl, h1, h2, hb⟩

set_option maxRecDepth 100000 in
set_option maxHeartbeats 8000000 in
theorem fitPlan (b : Idt) (l : List Idt) (A : Option Addr) (c : Nat) (es : List Ent) (Ae : Option Addr) (ce : Nat) (sh ix0 : Int) (gf : Nat) (w : World) (hx : Box w gf #[.int .i64 b.idx, .int .i64 b.trm, .int .i64 b.knd, .slice A l.length c, .slice Ae es.length ce, .int .i64 (sh)] 111) (h : Sl 3 idRow w.heap.size w (.slice A l.length c) l) (he : Sl 4 entRow w.heap.size w (.slice Ae es.length ce) es) (h0 : -9223372036854775808 ≤ b.idx + (l.length : Int)) (h1 : b.idx + (l.length : Int) ≤ 9223372036854775807) (hb : I64 b.idx) (hix : ∀ x ∈ es, I64 x.idx) (hn : es.length ≤ 100000) :
    Calls Tryz.prog 82 #[.pointer (some ⟨gf, 0, none⟩), .agg #[.bool true, .int .i64 (ix0), .int .i64 (0), .slice none 0 0, .slice none 0 0]] w (PlanPost (planV b l sh es ix0 []) w) := by
  have HXx := Lib.hid hx
  have HSs := Lib.hid h
  have HEs := Lib.hid he
  have HBb := hb
  have HIX := Lib.hid hix
  obtain ⟨kx, fx, zx⟩ := hx.facts
  obtain ⟨gp, hgp⟩ : ∃ g, g = w.heap.size := ⟨_, rfl⟩
  obtain ⟨gr, hgr⟩ : ∃ g, g = w.heap.size + 1 := ⟨_, rfl⟩
  have BP := Lib.hid ((Box.new w #[.bool true, .int .i64 (ix0), .int .i64 (0), .slice none 0 0, .slice none 0 0] 41).alloc (.cells #[.bool false, .int .i64 0, .int .i64 0, .slice none 0 0, .slice none 0 0] 41))
  have BR := Lib.hid (show Box ((w.alloc (.cells #[.bool true, .int .i64 (ix0), .int .i64 (0), .slice none 0 0, .slice none 0 0] 41)).alloc (.cells #[.bool false, .int .i64 0, .int .i64 0, .slice none 0 0, .slice none 0 0] 41)) (w.heap.size + 1) #[.bool false, .int .i64 0, .int .i64 0, .slice none 0 0, .slice none 0 0] 41 by have := Box.new (w.alloc (.cells #[.bool true, .int .i64 (ix0), .int .i64 (0), .slice none 0 0, .slice none 0 0] 41)) #[.bool false, .int .i64 0, .int .i64 0, .slice none 0 0, .slice none 0 0] 41; simpa using this)
  have BB := Lib.hid (below_call (below_new w (.cells #[.bool true, .int .i64 (ix0), .int .i64 (0), .slice none 0 0, .slice none 0 0] 41)) (below_new _ (.cells #[.bool false, .int .i64 0, .int .i64 0, .slice none 0 0, .slice none 0 0] 41)))
  rw [← hgp] at BP
  rw [← hgr] at BR
  clear hx h he hix
  go_enter Tryz.func82, Tryz.ntmps82
  go_wp2_with fail
  rw [← hgr, ← hgp]
  have hgl : w.heap.size ≤ gp := by omega
  have hgl2 : w.heap.size ≤ gr := by omega
  have hgpr : gp ≠ gr := by omega
  have hgpr2 : gp < gr := by omega
  have hgfp : gf ≠ gp := by have := HXx.out.lt; omega
  have HGP := Lib.hid hgp
  have HGR := Lib.hid hgr
  clear hgp hgr
  go_loopw [13] (fun i wr => ∃ (k : Nat) (s : List Ent) (ix : Int) (A1 : Option Addr) (c1 : Nat), k ≤ es.length ∧ i = .int .i64 k ∧ planV b l sh es ix0 [] = planV b l sh (es.drop k) ix s ∧ s.length ≤ k ∧ Box wr gp #[.bool true, .int .i64 (ix), .int .i64 (0), .slice A1 s.length c1, .slice none 0 0] 41 ∧ Own 4 entRow 28 (gr + 1) wr (.slice A1 s.length c1) s ∧ Box wr gr #[.bool false, .int .i64 0, .int .i64 0, .slice none 0 0, .slice none 0 0] 41 ∧ Below w.heap.size w wr) (fun i _ => es.length - (intOf i).toNat)
  case atStart => exact ⟨0, [], ix0, none, 0, by omega, rfl, rfl, by simp, BP.out, Own.nil_ _ _ _ _ _, BR.out, BB.out⟩
  case round =>
    clear kx fx zx BP BR BB
    obtain ⟨k, s, ix, A1, c1, hk, rfl, hpl, hsk, hbp, hown, hbr, hB⟩ := hrel
    have HB := Lib.hid hB
    have HP := Lib.hid hpl
    have HBP := Lib.hid hbp
    have HO := Lib.hid hown
    have HBR := Lib.hid hbr
    have HXr := Lib.hid (HXx.out.later hB)
    have hzr := hbr.lt
    clear hB hpl hbp hown hbr
    by_cases hlt : k < es.length
    · obtain ⟨eb, off, cap3, e3, hlc3, hcm3, hb3, hcell⟩ := (HEs.out.later HB.out).cellAt (by intro h; subst h; simp at hlt)
      simp only [Value.slice.injEq] at e3
      obtain ⟨rfl, -, rfl⟩ := e3
      obtain ⟨x, hxx⟩ : ∃ x, es[k]? = some x := ⟨_, List.getElem?_eq_getElem hlt⟩
      have d0 : decide ((k : Int) < (es.length : Int)) = true := decide_eq_true (by omega)
      have d0' : decide (k < es.length) = true := decide_eq_true hlt
      have i0 : (0 : Int) ≤ (k : Int) := by omega
      have i1 : (k : Int) < (es.length : Int) := by omega
      have k0 : wr.cell? ⟨eb, off + k * 4, none⟩ = some (.int .i64 x.idx) := hcell k x hxx 0 _ rfl
      have k1 : wr.cell? ⟨eb, off + k * 4 + 1, none⟩ = some (.int .i64 x.trm) := hcell k x hxx 1 _ rfl
      have k2 : wr.cell? ⟨eb, off + k * 4 + 2, none⟩ = some (.int .i64 x.knd) := hcell k x hxx 2 _ rfl
      have k3 : wr.cell? ⟨eb, off + k * 4 + 3, none⟩ = some (.slice x.ba x.bd.length x.bc) := hcell k x hxx 3 _ rfl
      have HI := HIX.out x (List.mem_of_getElem? hxx)
      have HXX := Lib.hid hxx
      have HEBP := Lib.hid (show eb < gp by
        obtain ⟨eb3, off3, cap5, e5, -, -, hb5, -⟩ := HEs.out.cellAt (by intro h; subst h; simp at hlt)
        simp only [Value.slice.injEq, Option.some.injEq, Addr.mk.injEq, and_true] at e5
        have := HGP.out; omega)
      clear hcell hxx
      go_upto_region 4 with fail
      have HEB := Lib.hid (Box.new wr #[.int .i64 x.idx, .int .i64 x.trm, .int .i64 x.knd, .slice x.ba x.bd.length x.bc] 28)
      have HBA := Lib.hid (below_new wr (.cells #[.int .i64 x.idx, .int .i64 x.trm, .int .i64 x.knd, .slice x.ba x.bd.length x.bc] 28))
      have hga : wr.heap.size < (wr.alloc (.cells #[.int .i64 x.idx, .int .i64 x.trm, .int .i64 x.knd, .slice x.ba x.bd.length x.bc] 28)).heap.size := by simp
      obtain ⟨ge, hge⟩ : ∃ y, y = wr.heap.size := ⟨_, rfl⟩
      obtain ⟨wa, hwa⟩ : ∃ y, y = wr.alloc (.cells #[.int .i64 x.idx, .int .i64 x.trm, .int .i64 x.knd, .slice x.ba x.bd.length x.bc] 28) := ⟨_, rfl⟩
      rw [← hwa] at HEB HBA hga
      rw [← hwa]
      rw [← hge] at HEB hga
      rw [← hge]
      have hgel : gr < ge := by omega
      have HGE := Lib.hid hge
      clear hwa hge k0 k1 k2 k3
      have HXa := Lib.hid (HXr.out.later HBA.out)
      have HPa := Lib.hid (HBP.out.later HBA.out)
      have HRa := Lib.hid (HBR.out.later HBA.out)
      have HOa := Lib.hid (HO.out.later HBA.out)
      have HBa := Lib.hid (below_call HB.out HBA.out)
      have ka0 : ∀ zw : Ext wa, zw.wd.cell? ⟨gf, 0, none⟩ = some (.int .i64 b.idx) := HXa.out.ext 0
      have ke0 : ∀ zw : Ext wa, zw.wd.cell? ⟨ge, 0, none⟩ = some (.int .i64 x.idx) := HEB.out.ext 0
      by_cases c1' : x.idx ≤ b.idx
      · have e1 : decide (x.idx ≤ b.idx) = true := decide_eq_true c1'
        refine wp_region_ext (by kernel_rfl) (by kernel_rfl) ?_
        repeat (go_big_quiet_step (fail))
        refine wpQuiet_nil ?_
        intro _ hw'
        obtain ⟨x9, hw''⟩ := hw'
        subst hw''
        clear ka0 ke0
        go_wp2_with fail
        go_roundw
        case rel => exact ⟨k + 1, s, ix, A1, c1, by omega, by go_num, HP.out.trans (planV_skip HXX.out c1'), by omega, HPa.out.later x9.low, HOa.out.later x9.low, HRa.out.later x9.low, below_call HBa.out x9.low⟩
        case measure => simp [intOf]; omega
      · have e1 : decide (x.idx ≤ b.idx) = false := decide_eq_false c1'
        have HC1 := Lib.hid c1'
        obtain ⟨kk, hkk⟩ : ∃ n, fitK b l sh x.idx x.trm = n := ⟨_, rfl⟩
        have hk4 : kk < 4 := by rw [← hkk]; exact fitK_lt
        have HKK := Lib.hid hkk
        have HF : Hid (∀ v, Below wa.heap.size wa v → Calls Tryz.prog 81 #[.pointer (some ⟨gf, 0, none⟩), .int .i64 x.idx, .int .i64 x.trm] v fun e w' => e = .returned (whyF b l sh x.idx x.trm) ∧ Below v.heap.size v w') := fun v hv =>
          fitFits b l A c _ es.length ce sh gf v x.idx x.trm (HXa.out.later hv) (HSs.out.later (below_call HBa.out hv)) h0 h1 HBb HI
        clear hkk
        have hdl : (es.drop k).length = es.length - k := List.length_drop
        have hebp : eb ≠ gp := by have := HEBP.out; omega
        go_upto_region 5 with fail
        refine wp_region_ext (by kernel_rfl) (by kernel_rfl) ?_
        repeat (go_big_quiet_step (fail))
        refine wpQuiet_nil ?_
        intro _ hw'
        obtain ⟨x9, hw''⟩ := hw'
        subst hw''
        clear ka0 ke0
        obtain ⟨ke, fe, ze⟩ := (HEB.out.later x9.low).facts
        go_upto_region 6 with (go_at_call 81; refine (HF.out _ x9.low).mono ?_; rintro e w2 ⟨rfl, hb2⟩; have HB2 := Lib.hid (below_call x9.low hb2); clear hb2)
        have HEB2 := Lib.hid (HEB.out.later HB2.out)
        have HP2 := Lib.hid (HPa.out.later HB2.out)
        have HR2 := Lib.hid (HRa.out.later HB2.out)
        have HO2 := Lib.hid (HOa.out.later HB2.out)
        have HX2 := Lib.hid (HXa.out.later HB2.out)
        have HBw := Lib.hid (below_call HBa.out HB2.out)
        have hz2 : gr < w2.heap.size := HR2.out.lt
        have hze2 : ge < w2.heap.size := HEB2.out.lt
        clear ke fe ze
        rcases (by omega : kk = 0 ∨ kk = 1 ∨ kk = 2 ∨ kk = 3) with h9 | h9 | h9 | h9
        · have HW := Lib.hid (whyF_0 (HKK.out.trans h9))
          rw [HW.out]
          have HQ := Lib.hid (HP.out.trans (planV_0 HXX.out (by have := HC1.out; omega) (HKK.out.trans h9)))
          clear h9
          go_upto_region 7 with fail
          have HSE : Hid (∀ w', Box w' ge #[.int .i64 x.idx, .int .i64 x.trm, .int .i64 x.knd, .slice x.ba x.bd.length x.bc] 28 → (w'.cell? ⟨ge, 0, none⟩ = some (.int .i64 x.idx) ∧ w'.cell? ⟨ge, 1, none⟩ = some (.int .i64 x.trm) ∧ w'.cell? ⟨ge, 2, none⟩ = some (.int .i64 x.knd) ∧ w'.cell? ⟨ge, 3, none⟩ = some (.slice x.ba x.bd.length x.bc))) := fun w' q => ⟨q.cell 0, q.cell 1, q.cell 2, q.cell 3⟩
          have HPA := Lib.hid (show Below w2.heap.size w2 ((w2.alloc (.cells #[.int .i64 x.idx, .int .i64 x.trm, .int .i64 x.knd, .slice x.ba x.bd.length x.bc] 28)).drew) from (below_new _ _).drew)
          have HOO := Lib.hid (show Own 4 entRow 28 (gr + 1) ((w2.alloc (.cells #[.int .i64 x.idx, .int .i64 x.trm, .int .i64 x.knd, .slice x.ba x.bd.length x.bc] 28)).drew) (.slice A1 s.length c1) s from (HO2.out.alloc _).drew)
          have HBB := Lib.hid (show Box ((w2.alloc (.cells #[.int .i64 x.idx, .int .i64 x.trm, .int .i64 x.knd, .slice x.ba x.bd.length x.bc] 28)).drew) w2.heap.size #[.int .i64 x.idx, .int .i64 x.trm, .int .i64 x.knd, .slice x.ba x.bd.length x.bc] 28 from Box.drew_ (Box.new _ _ _))
          have HLL := Lib.hid (show s.length + 1 ≤ 4294967296 by omega)
          have HSS := Lib.hid (show gr + 1 ≤ ((w2.alloc (.cells #[.int .i64 x.idx, .int .i64 x.trm, .int .i64 x.knd, .slice x.ba x.bd.length x.bc] 28)).drew).heap.size by simp; omega)
          have HGS := Lib.hid (show ge < ((w2.alloc (.cells #[.int .i64 x.idx, .int .i64 x.trm, .int .i64 x.knd, .slice x.ba x.bd.length x.bc] 28)).drew).heap.size by simp; omega)
          have HOB : Hid (∀ q, (Value.slice A1 s.length c1).ownBlock = some q → q < ge) := fun q hq => by have h1 := (HO.out.block hq).2; have h2 := HGE.out; omega
          have hgegp : ge ≠ gp := by omega
          obtain ⟨kp, fp, zp⟩ := HP2.out.facts
          obtain ⟨ke, fe, ze⟩ := HEB2.out.facts
          refine wp_region_held_drew (S := fun w' => w'.cell? ⟨ge, 0, none⟩ = some (.int .i64 x.idx) ∧ w'.cell? ⟨ge, 1, none⟩ = some (.int .i64 x.trm) ∧ w'.cell? ⟨ge, 2, none⟩ = some (.int .i64 x.knd) ∧ w'.cell? ⟨ge, 3, none⟩ = some (.slice x.ba x.bd.length x.bc)) (by kernel_rfl) (HSE.out _ (box_drew HEB2.out)) (fun hHeld => ?_)
          first
            | (refine wpAnyH_take (i := 0) (v := ?_) rfl (by kernel_rfl) (by kernel_rfl) (by kernel_rfl) (fun _ _ _ h => h) (Or.inl ⟨?_, ?_⟩) (by assumption) ?_; rotate_left; (focus rfl); (focus (intro w hSw; go_split_ands; go_simp; try with_reducible rfl)); skip)
            | (refine wpAnyH_take (i := 0) (v := undef) rfl (by kernel_rfl) (by kernel_rfl) (by kernel_rfl) (fun _ _ _ h => h) (Or.inr ⟨?_, rfl⟩) (by assumption) ?_; (focus rfl))
          try simp only [Act.put, List.setIfInBounds_toArray, List.set_cons_zero, List.set_cons_succ, List.getElem_toArray, List.getElem_cons_zero, List.getElem_cons_succ]
          first
            | (refine wpAnyH_take (i := 2) (v := ?_) rfl (by kernel_rfl) (by kernel_rfl) (by kernel_rfl) (fun _ _ _ h => h) (Or.inl ⟨?_, ?_⟩) (by assumption) ?_; rotate_left; (focus rfl); (focus (intro w hSw; go_split_ands; go_simp; try with_reducible rfl)); skip)
            | (refine wpAnyH_take (i := 2) (v := undef) rfl (by kernel_rfl) (by kernel_rfl) (by kernel_rfl) (fun _ _ _ h => h) (Or.inr ⟨?_, rfl⟩) (by assumption) ?_; (focus rfl))
          try simp only [Act.put, List.setIfInBounds_toArray, List.set_cons_zero, List.set_cons_succ, List.getElem_toArray, List.getElem_cons_zero, List.getElem_cons_succ]
          first
            | (refine wpAnyH_take (i := 5) (v := ?_) rfl (by kernel_rfl) (by kernel_rfl) (by kernel_rfl) (fun _ _ _ h => h) (Or.inl ⟨?_, ?_⟩) (by assumption) ?_; rotate_left; (focus rfl); (focus (intro w hSw; go_split_ands; go_simp; try with_reducible rfl)); skip)
            | (refine wpAnyH_take (i := 5) (v := undef) rfl (by kernel_rfl) (by kernel_rfl) (by kernel_rfl) (fun _ _ _ h => h) (Or.inr ⟨?_, rfl⟩) (by assumption) ?_; (focus rfl))
          try simp only [Act.put, List.setIfInBounds_toArray, List.set_cons_zero, List.set_cons_succ, List.getElem_toArray, List.getElem_cons_zero, List.getElem_cons_succ]
          first
            | (refine wpAnyH_take (i := 6) (v := ?_) rfl (by kernel_rfl) (by kernel_rfl) (by kernel_rfl) (fun _ _ _ h => h) (Or.inl ⟨?_, ?_⟩) (by assumption) ?_; rotate_left; (focus rfl); (focus (intro w hSw; go_split_ands; go_simp; try with_reducible rfl)); skip)
            | (refine wpAnyH_take (i := 6) (v := undef) rfl (by kernel_rfl) (by kernel_rfl) (by kernel_rfl) (fun _ _ _ h => h) (Or.inr ⟨?_, rfl⟩) (by assumption) ?_; (focus rfl))
          try simp only [Act.put, List.setIfInBounds_toArray, List.set_cons_zero, List.set_cons_succ, List.getElem_toArray, List.getElem_cons_zero, List.getElem_cons_succ]
          refine wpAnyH_ready (rs := [1, 3]) (by kernel_rfl) (by simp) ?_
          refine AllReadyH.cons rfl (fun K hK => ?_) (AllReadyH.cons rfl (fun K hK => ?_) AllReadyH.nil)
          · go_simp
            refine hK.out _ _ (HSE.out _ (box_drew HEB2.out)) (fun hH => ?_)
            clear hK K
            try simp only [Act.put, List.setIfInBounds_toArray, List.set_cons_zero, List.set_cons_succ, List.getElem_toArray, List.getElem_cons_zero, List.getElem_cons_succ]
            refine wpAnyH_ready (rs := [3]) (by kernel_rfl) (by simp) ?_
            refine AllReadyH.cons rfl (fun K hK => ?_) AllReadyH.nil
            go_simp
            refine hK.out _ _ (HSE.out _ (box_drew (HEB2.out.alloc (.cells #[.int .i64 x.idx, .int .i64 x.trm, .int .i64 x.knd, .slice x.ba x.bd.length x.bc] 28)))) (fun hH => ?_)
            clear hK K
            try simp only [Act.put, List.setIfInBounds_toArray, List.set_cons_zero, List.set_cons_succ, List.getElem_toArray, List.getElem_cons_zero, List.getElem_cons_succ]
            refine wpAnyH_ready (rs := [4]) (by kernel_rfl) (by simp) ?_
            refine AllReadyH.cons rfl (fun K hK => ?_) AllReadyH.nil
            refine step_append_keep rfl (.tmp 36) (.tmp 38) 31 rfl (gr + 1) 28 _ 4 48 Tryz.underlying31 entInfo rfl (Nat.succ_pos 3) entRow entRow_length entRow_one s _ rfl HOO.out x #[.int .i64 x.idx, .int .i64 x.trm, .int .i64 x.knd, .slice x.ba x.bd.length x.bc] rfl 28 _ rfl HBB.out HLL.out (by omega) HSS.out ?_
            intro g7 c7 w7 p1 p2 p3 p4
            have HE7 := Lib.hid (show Box w7 ge #[.int .i64 x.idx, .int .i64 x.trm, .int .i64 x.knd, .slice x.ba x.bd.length x.bc] 28 from (p4 ge HGS.out (fun he => by have := HOB.out ge he.symm; omega)).trans (HEB2.out.alloc (.cells #[.int .i64 x.idx, .int .i64 x.trm, .int .i64 x.knd, .slice x.ba x.bd.length x.bc] 28)))
            have HP7 := Lib.hid ((HP2.out.alloc (.cells #[.int .i64 x.idx, .int .i64 x.trm, .int .i64 x.knd, .slice x.ba x.bd.length x.bc] 28)).drew_.below p2 (show gp < gr + 1 by omega))
            have HR7 := Lib.hid ((HR2.out.alloc (.cells #[.int .i64 x.idx, .int .i64 x.trm, .int .i64 x.knd, .slice x.ba x.bd.length x.bc] 28)).drew_.below p2 (Nat.lt_succ_self gr))
            have HO7 := Lib.hid p1
            have HB7 := Lib.hid ((below_call HBw.out HPA.out).trans (p2.mono (show w.heap.size ≤ gr + 1 by omega)))
            obtain ⟨kb, fb, zb⟩ := HP7.out.facts
            clear p1 p2 p3 p4
            refine hK.out _ _ (HSE.out _ HE7.out) (fun hH => ?_)
            clear hK K
            try simp only [Act.put, List.setIfInBounds_toArray, List.set_cons_zero, List.set_cons_succ, List.getElem_toArray, List.getElem_cons_zero, List.getElem_cons_succ]
            first
              | (refine wpAnyH_take (i := 7) (v := ?_) rfl (by kernel_rfl) (by kernel_rfl) (by kernel_rfl) (fun _ _ _ h => h) (Or.inl ⟨?_, ?_⟩) (by assumption) ?_; rotate_left; (focus rfl); (focus (intro w hSw; go_split_ands; go_simp; try with_reducible rfl)); skip)
              | (refine wpAnyH_take (i := 7) (v := undef) rfl (by kernel_rfl) (by kernel_rfl) (by kernel_rfl) (fun _ _ _ h => h) (Or.inr ⟨?_, rfl⟩) (by assumption) ?_; (focus rfl))
            try simp only [Act.put, List.setIfInBounds_toArray, List.set_cons_zero, List.set_cons_succ, List.getElem_toArray, List.getElem_cons_zero, List.getElem_cons_succ]
            refine wpAnyH_ready (rs := [8]) (by kernel_rfl) (by simp) ?_
            refine AllReadyH.cons rfl (fun K hK => ?_) AllReadyH.nil
            go_simp
            refine hK.out _ _ (HSE.out _ (HE7.out.far (p := ⟨gp, 3, none⟩) hgegp _)) (fun hH => ?_)
            clear hK K
            try simp only [Act.put, List.setIfInBounds_toArray, List.set_cons_zero, List.set_cons_succ, List.getElem_toArray, List.getElem_cons_zero, List.getElem_cons_succ]
            first
              | (refine wpAnyH_take (i := 9) (v := ?_) rfl (by kernel_rfl) (by kernel_rfl) (by kernel_rfl) (fun _ _ _ h => h) (Or.inl ⟨?_, ?_⟩) (by assumption) ?_; rotate_left; (focus rfl); (focus (intro w hSw; go_split_ands; go_simp; try with_reducible rfl)); skip)
              | (refine wpAnyH_take (i := 9) (v := undef) rfl (by kernel_rfl) (by kernel_rfl) (by kernel_rfl) (fun _ _ _ h => h) (Or.inr ⟨?_, rfl⟩) (by assumption) ?_; (focus rfl))
            try simp only [Act.put, List.setIfInBounds_toArray, List.set_cons_zero, List.set_cons_succ, List.getElem_toArray, List.getElem_cons_zero, List.getElem_cons_succ]
            refine wpAnyH_ready (rs := [10]) (by kernel_rfl) (by simp) ?_
            refine AllReadyH.cons rfl (fun K hK => ?_) AllReadyH.nil
            go_simp
            refine hK.out _ _ (HSE.out _ (Box.far (p := ⟨gp, 1, none⟩) (HE7.out.far (p := ⟨gp, 3, none⟩) hgegp _) hgegp _)) (fun hH => ?_)
            clear hK K
            try simp only [Act.put, List.setIfInBounds_toArray, List.set_cons_zero, List.set_cons_succ, List.getElem_toArray, List.getElem_cons_zero, List.getElem_cons_succ]
            refine wpAnyH_done (by kernel_rfl) ?_ _
            clear kb fb zb kp fp zp ke fe ze
            go_wp2_with fail
            go_roundw
            case rel => exact ⟨k + 1, s ++ [x], x.idx, some ⟨g7, 0, none⟩, c7, by omega, by go_num, HQ.out, by simp; omega, (by have hls : (s ++ [x]).length = s.length + 1 := (by simp); rw [hls]; exact (HP7.out.set_ 3 _).set_ 1 _), (HO7.out.set_below (show gp < gr + 1 by omega)).set_below (show gp < gr + 1 by omega), (HR7.out.far (p := ⟨gp, 3, none⟩) (show gr ≠ gp from fun he => hgpr he.symm) _).far (p := ⟨gp, 1, none⟩) (show gr ≠ gp from fun he => hgpr he.symm) _, below_set (below_set HB7.out hgl) hgl⟩
            case measure => simp [intOf]; omega
          · go_simp
            refine hK.out _ _ (HSE.out _ (box_drew (HEB2.out.alloc (.cells #[.int .i64 x.idx, .int .i64 x.trm, .int .i64 x.knd, .slice x.ba x.bd.length x.bc] 28)))) (fun hH => ?_)
            clear hK K
            try simp only [Act.put, List.setIfInBounds_toArray, List.set_cons_zero, List.set_cons_succ, List.getElem_toArray, List.getElem_cons_zero, List.getElem_cons_succ]
            refine wpAnyH_ready (rs := [1]) (by kernel_rfl) (by simp) ?_
            refine AllReadyH.cons rfl (fun K hK => ?_) AllReadyH.nil
            go_simp
            refine hK.out _ _ (HSE.out _ (box_drew (HEB2.out.alloc (.cells #[.int .i64 x.idx, .int .i64 x.trm, .int .i64 x.knd, .slice x.ba x.bd.length x.bc] 28)))) (fun hH => ?_)
            clear hK K
            try simp only [Act.put, List.setIfInBounds_toArray, List.set_cons_zero, List.set_cons_succ, List.getElem_toArray, List.getElem_cons_zero, List.getElem_cons_succ]
            refine wpAnyH_ready (rs := [4]) (by kernel_rfl) (by simp) ?_
            refine AllReadyH.cons rfl (fun K hK => ?_) AllReadyH.nil
            refine step_append_keep rfl (.tmp 36) (.tmp 38) 31 rfl (gr + 1) 28 _ 4 48 Tryz.underlying31 entInfo rfl (Nat.succ_pos 3) entRow entRow_length entRow_one s _ rfl HOO.out x #[.int .i64 x.idx, .int .i64 x.trm, .int .i64 x.knd, .slice x.ba x.bd.length x.bc] rfl 28 _ rfl HBB.out HLL.out (by omega) HSS.out ?_
            intro g7 c7 w7 p1 p2 p3 p4
            have HE7 := Lib.hid (show Box w7 ge #[.int .i64 x.idx, .int .i64 x.trm, .int .i64 x.knd, .slice x.ba x.bd.length x.bc] 28 from (p4 ge HGS.out (fun he => by have := HOB.out ge he.symm; omega)).trans (HEB2.out.alloc (.cells #[.int .i64 x.idx, .int .i64 x.trm, .int .i64 x.knd, .slice x.ba x.bd.length x.bc] 28)))
            have HP7 := Lib.hid ((HP2.out.alloc (.cells #[.int .i64 x.idx, .int .i64 x.trm, .int .i64 x.knd, .slice x.ba x.bd.length x.bc] 28)).drew_.below p2 (show gp < gr + 1 by omega))
            have HR7 := Lib.hid ((HR2.out.alloc (.cells #[.int .i64 x.idx, .int .i64 x.trm, .int .i64 x.knd, .slice x.ba x.bd.length x.bc] 28)).drew_.below p2 (Nat.lt_succ_self gr))
            have HO7 := Lib.hid p1
            have HB7 := Lib.hid ((below_call HBw.out HPA.out).trans (p2.mono (show w.heap.size ≤ gr + 1 by omega)))
            obtain ⟨kb, fb, zb⟩ := HP7.out.facts
            clear p1 p2 p3 p4
            refine hK.out _ _ (HSE.out _ HE7.out) (fun hH => ?_)
            clear hK K
            try simp only [Act.put, List.setIfInBounds_toArray, List.set_cons_zero, List.set_cons_succ, List.getElem_toArray, List.getElem_cons_zero, List.getElem_cons_succ]
            first
              | (refine wpAnyH_take (i := 7) (v := ?_) rfl (by kernel_rfl) (by kernel_rfl) (by kernel_rfl) (fun _ _ _ h => h) (Or.inl ⟨?_, ?_⟩) (by assumption) ?_; rotate_left; (focus rfl); (focus (intro w hSw; go_split_ands; go_simp; try with_reducible rfl)); skip)
              | (refine wpAnyH_take (i := 7) (v := undef) rfl (by kernel_rfl) (by kernel_rfl) (by kernel_rfl) (fun _ _ _ h => h) (Or.inr ⟨?_, rfl⟩) (by assumption) ?_; (focus rfl))
            try simp only [Act.put, List.setIfInBounds_toArray, List.set_cons_zero, List.set_cons_succ, List.getElem_toArray, List.getElem_cons_zero, List.getElem_cons_succ]
            refine wpAnyH_ready (rs := [8]) (by kernel_rfl) (by simp) ?_
            refine AllReadyH.cons rfl (fun K hK => ?_) AllReadyH.nil
            go_simp
            refine hK.out _ _ (HSE.out _ (HE7.out.far (p := ⟨gp, 3, none⟩) hgegp _)) (fun hH => ?_)
            clear hK K
            try simp only [Act.put, List.setIfInBounds_toArray, List.set_cons_zero, List.set_cons_succ, List.getElem_toArray, List.getElem_cons_zero, List.getElem_cons_succ]
            first
              | (refine wpAnyH_take (i := 9) (v := ?_) rfl (by kernel_rfl) (by kernel_rfl) (by kernel_rfl) (fun _ _ _ h => h) (Or.inl ⟨?_, ?_⟩) (by assumption) ?_; rotate_left; (focus rfl); (focus (intro w hSw; go_split_ands; go_simp; try with_reducible rfl)); skip)
              | (refine wpAnyH_take (i := 9) (v := undef) rfl (by kernel_rfl) (by kernel_rfl) (by kernel_rfl) (fun _ _ _ h => h) (Or.inr ⟨?_, rfl⟩) (by assumption) ?_; (focus rfl))
            try simp only [Act.put, List.setIfInBounds_toArray, List.set_cons_zero, List.set_cons_succ, List.getElem_toArray, List.getElem_cons_zero, List.getElem_cons_succ]
            refine wpAnyH_ready (rs := [10]) (by kernel_rfl) (by simp) ?_
            refine AllReadyH.cons rfl (fun K hK => ?_) AllReadyH.nil
            go_simp
            refine hK.out _ _ (HSE.out _ (Box.far (p := ⟨gp, 1, none⟩) (HE7.out.far (p := ⟨gp, 3, none⟩) hgegp _) hgegp _)) (fun hH => ?_)
            clear hK K
            try simp only [Act.put, List.setIfInBounds_toArray, List.set_cons_zero, List.set_cons_succ, List.getElem_toArray, List.getElem_cons_zero, List.getElem_cons_succ]
            refine wpAnyH_done (by kernel_rfl) ?_ _
            clear kb fb zb kp fp zp ke fe ze
            go_wp2_with fail
            go_roundw
            case rel => exact ⟨k + 1, s ++ [x], x.idx, some ⟨g7, 0, none⟩, c7, by omega, by go_num, HQ.out, by simp; omega, (by have hls : (s ++ [x]).length = s.length + 1 := (by simp); rw [hls]; exact (HP7.out.set_ 3 _).set_ 1 _), (HO7.out.set_below (show gp < gr + 1 by omega)).set_below (show gp < gr + 1 by omega), (HR7.out.far (p := ⟨gp, 3, none⟩) (show gr ≠ gp from fun he => hgpr he.symm) _).far (p := ⟨gp, 1, none⟩) (show gr ≠ gp from fun he => hgpr he.symm) _, below_set (below_set HB7.out hgl) hgl⟩
            case measure => simp [intOf]; omega
        · have HW := Lib.hid (show whyF b l sh x.idx x.trm = misV x.idx (fitH b l x.idx) 1 from whyF_k (k := 1) (HKK.out.trans h9) (by omega))
          rw [HW.out]
          unfold misV
          have HQ := Lib.hid (HP.out.trans (planV_1 HXX.out (by have := HC1.out; omega) (HKK.out.trans h9)))
          obtain ⟨kp, fp, zp⟩ := HP2.out.facts
          obtain ⟨ke, fe, ze⟩ := HEB2.out.facts
          go_upto_region 12 with (first
            | (go_at_call 99; refine (MatE.is_wrap _ _ _ _ _).mono ?_; rintro e w3 ⟨rfl, hb3⟩; rw [show ((1 : Int) == 3) = false from rfl]; have HB3 := Lib.hid (below_call HBw.out hb3); have HP3 := Lib.hid (HP2.out.later hb3); have HR3 := Lib.hid (HR2.out.later hb3); have HO3 := Lib.hid (HO2.out.later hb3); have HE3 := Lib.hid (HEB2.out.later hb3); have HX3 := Lib.hid (HX2.out.later hb3); clear kp fp zp ke fe ze hb3)
            | (go_at_call 99; refine (MatE.is_wrap _ _ _ _ _).mono ?_; rintro e w4 ⟨rfl, hb4⟩; rw [show ((1 : Int) == 2) = false from rfl]; have HB4 := Lib.hid (below_call HB3.out hb4); have HP4 := Lib.hid (HP3.out.later hb4); have HR4 := Lib.hid (HR3.out.later hb4); have HO4 := Lib.hid (HO3.out.later hb4); have HE4 := Lib.hid (HE3.out.later hb4); have HX4 := Lib.hid (HX3.out.later hb4); obtain ⟨kq, fq, zq⟩ := HP4.out.facts; obtain ⟨ku, fu, zu⟩ := HE4.out.facts; clear hb4))
          have HPb := Lib.hid HP4.out
          have HRb := Lib.hid HR4.out
          have HOb := Lib.hid HO4.out
          have HXb := Lib.hid HX4.out
          have HBb4 := Lib.hid HB4.out
          obtain ⟨wb, hwb⟩ : ∃ y, y = w4 := ⟨_, rfl⟩
          rw [← hwb] at HPb HRb HOb HXb HBb4
          rw [← hwb]
          clear hwb kq fq zq ku fu zu
          obtain ⟨kq, fq, zq⟩ := HXb.out.facts
          have HSb := Lib.hid ((HEs.out.later HBb4.out).drop_ (j := k) (by omega))
          have hck : ¬ ce = k := by omega
          have hzb := HRb.out.lt
          have HDL := Lib.hid hdl
          clear hdl
          go_upto_region 13 with (go_at_call 125; refine (cloneEnts (es.drop k) _ wb HSb.out (by rw [HDL.out]; omega)).mono ?_; rintro e w5 ⟨A2, c2, rfl, ho, hb⟩; have HA5 := Lib.hid ho; rw [HDL.out]; have HB5 := Lib.hid hb; obtain ⟨kr, fr, zr⟩ := (HPb.out.later hb).facts; clear ho hb kq fq zq)
          obtain ⟨vz, hvz⟩ : ∃ v : Value, v = (.slice A2 (es.length - k) c2) := ⟨_, rfl⟩
          have HPc := Lib.hid ((HPb.out.later HB5.out).set_ 4 vz)
          have HRc := Lib.hid ((HRb.out.later HB5.out).far (p := ⟨gp, 4, none⟩) (show gr ≠ gp from fun he => hgpr he.symm) vz)
          have HOc := Lib.hid ((HOb.out.later HB5.out).set_below (i := 4) (u := vz) (show gp < gr + 1 by omega))
          have HXc := Lib.hid ((HXb.out.later HB5.out).far (p := ⟨gp, 4, none⟩) hgfp vz)
          have HBc := Lib.hid (below_set (i := 4) (u := vz) (below_call HBb4.out HB5.out) hgl)
          have HAc := Lib.hid ((HA5.out.less (base' := gr + 1) (by omega)).set_below (i := 4) (u := vz) (show gp < gr + 1 by omega))
          subst hvz
          obtain ⟨wc, hwc⟩ : ∃ y, y = w5.setCell ⟨gp, 4, none⟩ (.slice A2 (es.length - k) c2) := ⟨_, rfl⟩
          rw [← hwc] at HPc HRc HOc HXc HBc HAc
          rw [← hwc]
          clear hwc kr fr zr
          obtain ⟨n1, hn1⟩ : ∃ n : Nat, n = es.length - 1 := ⟨_, rfl⟩
          obtain ⟨y, hy⟩ : ∃ y, es[n1]? = some y := ⟨_, List.getElem?_eq_getElem (by omega)⟩
          have HLA : Hid ((lastE ⟨0, 0, 0⟩ (es.drop k)).idx = y.idx) := by
            have h2 : (es.drop k)[(es.drop k).length - 1]? = some y := by rw [List.getElem?_drop, List.length_drop, ← hy]; congr 1; omega
            show (lastE ⟨0, 0, 0⟩ (es.drop k)).idx = y.idx
            rw [lastE_get _ _ _ h2]; rfl
          have wn : IntKind.i64.wrap ((es.length : Int) - 1) = (n1 : Int) := by rw [IntWalk.i64_in _ (by omega)]; omega
          have j0 : (0 : Int) ≤ (n1 : Int) := by omega
          have j1 : (n1 : Int) < (es.length : Int) := by omega
          obtain ⟨eb2, off2, cap4, e4, -, -, hb4, hcell4⟩ := (HEs.out.later HBc.out).cellAt (by intro h; subst h; simp at hlt)
          simp only [Value.slice.injEq, Option.some.injEq, Addr.mk.injEq, and_true] at e4
          obtain ⟨⟨rfl, rfl⟩, -, rfl⟩ := e4
          have hs1 : (wc.cell? ⟨gf, 4, none⟩ = some (.slice (some ⟨eb, off, none⟩) es.length ce) ∧ wc.cell? ⟨eb, off + n1 * 4, none⟩ = some (.int .i64 y.idx)) := ⟨HXc.out.cell 4, hcell4 n1 y hy 0 _ rfl⟩
          have hs2 : ((wc.setCell ⟨gp, 1, none⟩ (.int .i64 y.idx)).cell? ⟨gf, 4, none⟩ = some (.slice (some ⟨eb, off, none⟩) es.length ce) ∧ (wc.setCell ⟨gp, 1, none⟩ (.int .i64 y.idx)).cell? ⟨eb, off + n1 * 4, none⟩ = some (.int .i64 y.idx)) := ⟨(HXc.out.far (p := ⟨gp, 1, none⟩) hgfp (.int .i64 y.idx)).cell 4, (World.cell?_of_block (a := ⟨eb, off + n1 * 4, none⟩) (Below.heap_setCell wc ⟨gp, 1, none⟩ _ eb (fun he => hebp he))).trans (hcell4 n1 y hy 0 _ rfl)⟩
          have hs1' : (wc.drew.cell? ⟨gf, 4, none⟩ = some (.slice (some ⟨eb, off, none⟩) es.length ce) ∧ wc.drew.cell? ⟨eb, off + n1 * 4, none⟩ = some (.int .i64 y.idx)) := hs1
          have hs2' : ((wc.setCell ⟨gp, 1, none⟩ (.int .i64 y.idx)).drew.cell? ⟨gf, 4, none⟩ = some (.slice (some ⟨eb, off, none⟩) es.length ce) ∧ (wc.setCell ⟨gp, 1, none⟩ (.int .i64 y.idx)).drew.cell? ⟨eb, off + n1 * 4, none⟩ = some (.int .i64 y.idx)) := hs2
          obtain ⟨kv, fv, zv⟩ := HPc.out.facts
          have HPd := Lib.hid (HPc.out.set_ 1 (.int .i64 y.idx))
          have HRd := Lib.hid (HRc.out.far (p := ⟨gp, 1, none⟩) (show gr ≠ gp from fun he => hgpr he.symm) (.int .i64 y.idx))
          have HOd := Lib.hid (HOc.out.set_below (i := 1) (u := .int .i64 y.idx) (show gp < gr + 1 by omega))
          have HBd := Lib.hid (below_set (i := 1) (u := .int .i64 y.idx) HBc.out hgl)
          have HAd := Lib.hid (HAc.out.set_below (i := 1) (u := .int .i64 y.idx) (show gp < gr + 1 by omega))
          clear hn1 hy hcell4 hs1 hs2 i0 i1 hck
          first | go_region_held3 (fun w' => (w'.cell? ⟨gf, 4, none⟩ = some (.slice (some ⟨eb, off, none⟩) es.length ce) ∧ w'.cell? ⟨eb, off + n1 * 4, none⟩ = some (.int .i64 y.idx)))
            (first | exact hs1' | exact hs2' | fail)
            (fail)
          have HPe := Lib.hid (show Box ((wc.setCell ⟨gp, 1, none⟩ (.int .i64 y.idx)).drew) gp #[.bool true, .int .i64 y.idx, .int .i64 (0), .slice A1 s.length c1, .slice A2 (es.length - k) c2] 41 from box_drew HPd.out)
          have HRe := Lib.hid (show Box ((wc.setCell ⟨gp, 1, none⟩ (.int .i64 y.idx)).drew) gr #[.bool false, .int .i64 0, .int .i64 0, .slice none 0 0, .slice none 0 0] 41 from box_drew HRd.out)
          have HOe := Lib.hid (show Own 4 entRow 28 (gr + 1) ((wc.setCell ⟨gp, 1, none⟩ (.int .i64 y.idx)).drew) (.slice A1 s.length c1) s from HOd.out.drew)
          have HAe := Lib.hid (show Own 4 entRow 28 (gr + 1) ((wc.setCell ⟨gp, 1, none⟩ (.int .i64 y.idx)).drew) (.slice A2 (es.drop k).length c2) (es.drop k) from by have h := HAd.out.drew; exact h)
          have HBe := Lib.hid (show Below w.heap.size w ((wc.setCell ⟨gp, 1, none⟩ (.int .i64 y.idx)).drew) from HBd.out.drew)
          clear HPd HRd HOd HAd HBd HPc HRc HOc HXc HBc HAc hs1' hs2' kv fv zv
          obtain ⟨wd, hwd⟩ : ∃ z, z = (wc.setCell ⟨gp, 1, none⟩ (.int .i64 y.idx)).drew := ⟨_, rfl⟩
          rw [← hwd] at HPe HRe HOe HAe HBe
          rw [← hwd]
          clear hwd
          obtain ⟨kq, fq, zq⟩ := HPe.out.facts
          obtain ⟨ku, fu, zu⟩ := HRe.out.facts
          go_wp2_with fail
          refine bodyPost_with (fun W => Box W gr #[.bool true, .int .i64 y.idx, .int .i64 (0), .slice A1 s.length c1, .slice A2 (es.length - k) c2] 41 ∧ Own 4 entRow 28 (gr + 1) W (.slice A1 s.length c1) s ∧ Own 4 entRow 28 (gr + 1) W (.slice A2 (es.drop k).length c2) (es.drop k) ∧ Below w.heap.size w W) ⟨HRe.out.set5 _ _ _ _ _, HOe.out.set5b (Nat.lt_succ_self gr) _ _ _ _ _, HAe.out.set5b (Nat.lt_succ_self gr) _ _ _ _ _, below_set5 HBe.out hgl2 _ _ _ _ _⟩ ?_
          rintro wz ⟨hz1, hz2, hz4, hz3⟩
          obtain ⟨kz, -, -⟩ := hz1.facts
          refine bodyPost_ret (v := .agg #[.bool true, .int .i64 y.idx, .int .i64 (0), .slice A1 s.length c1, .slice A2 (es.length - k) c2]) (by simp [results, Tryz.results82, go_sem, kz]) rfl ?_
          have hfin := planPost_mk HQ.out (A1 := A1) (A2 := A2) (c1 := c1) (c2 := c2) (hz2.less (show w.heap.size ≤ gr + 1 by omega)) (hz4.less (show w.heap.size ≤ gr + 1 by omega)) hz3
          rw [HLA.out, HDL.out] at hfin
          exact hfin
        · have HW := Lib.hid (show whyF b l sh x.idx x.trm = misV x.idx (fitH b l x.idx) 2 from whyF_k (k := 2) (HKK.out.trans h9) (by omega))
          rw [HW.out]
          unfold misV
          have HQ := Lib.hid (HP.out.trans (planV_2 HXX.out (by have := HC1.out; omega) (HKK.out.trans h9)))
          obtain ⟨kp, fp, zp⟩ := HP2.out.facts
          obtain ⟨ke, fe, ze⟩ := HEB2.out.facts
          go_upto_region 12 with (first
            | (go_at_call 99; refine (MatE.is_wrap _ _ _ _ _).mono ?_; rintro e w3 ⟨rfl, hb3⟩; rw [show ((2 : Int) == 3) = false from rfl]; have HB3 := Lib.hid (below_call HBw.out hb3); have HP3 := Lib.hid (HP2.out.later hb3); have HR3 := Lib.hid (HR2.out.later hb3); have HO3 := Lib.hid (HO2.out.later hb3); have HE3 := Lib.hid (HEB2.out.later hb3); have HX3 := Lib.hid (HX2.out.later hb3); clear kp fp zp ke fe ze hb3)
            | (go_at_call 99; refine (MatE.is_wrap _ _ _ _ _).mono ?_; rintro e w4 ⟨rfl, hb4⟩; rw [show ((2 : Int) == 2) = true from rfl]; have HB4 := Lib.hid (below_call HB3.out hb4); have HP4 := Lib.hid (HP3.out.later hb4); have HR4 := Lib.hid (HR3.out.later hb4); have HO4 := Lib.hid (HO3.out.later hb4); have HE4 := Lib.hid (HE3.out.later hb4); have HX4 := Lib.hid (HX3.out.later hb4); obtain ⟨kq, fq, zq⟩ := HP4.out.facts; obtain ⟨ku, fu, zu⟩ := HE4.out.facts; clear hb4))
          have HPb := Lib.hid (HP4.out.set_ 2 (.int .i64 x.idx))
          have HRb := Lib.hid (HR4.out.far (p := ⟨gp, 2, none⟩) (show gr ≠ gp from fun he => hgpr he.symm) (.int .i64 x.idx))
          have HOb := Lib.hid (HO4.out.set_below (i := 2) (u := .int .i64 x.idx) (show gp < gr + 1 by omega))
          have HXb := Lib.hid (HX4.out.far (p := ⟨gp, 2, none⟩) hgfp (.int .i64 x.idx))
          have HBb4 := Lib.hid (below_set (i := 2) (u := .int .i64 x.idx) HB4.out hgl)
          obtain ⟨wb, hwb⟩ : ∃ y, y = (w4.setCell ⟨gp, 2, none⟩ (.int .i64 x.idx)) := ⟨_, rfl⟩
          rw [← hwb] at HPb HRb HOb HXb HBb4
          rw [← hwb]
          clear hwb kq fq zq ku fu zu
          obtain ⟨kq, fq, zq⟩ := HXb.out.facts
          have HSb := Lib.hid ((HEs.out.later HBb4.out).drop_ (j := k) (by omega))
          have hck : ¬ ce = k := by omega
          have hzb := HRb.out.lt
          have HDL := Lib.hid hdl
          clear hdl
          go_upto_region 13 with (go_at_call 125; refine (cloneEnts (es.drop k) _ wb HSb.out (by rw [HDL.out]; omega)).mono ?_; rintro e w5 ⟨A2, c2, rfl, ho, hb⟩; have HA5 := Lib.hid ho; rw [HDL.out]; have HB5 := Lib.hid hb; obtain ⟨kr, fr, zr⟩ := (HPb.out.later hb).facts; clear ho hb kq fq zq)
          obtain ⟨vz, hvz⟩ : ∃ v : Value, v = (.slice A2 (es.length - k) c2) := ⟨_, rfl⟩
          have HPc := Lib.hid ((HPb.out.later HB5.out).set_ 4 vz)
          have HRc := Lib.hid ((HRb.out.later HB5.out).far (p := ⟨gp, 4, none⟩) (show gr ≠ gp from fun he => hgpr he.symm) vz)
          have HOc := Lib.hid ((HOb.out.later HB5.out).set_below (i := 4) (u := vz) (show gp < gr + 1 by omega))
          have HXc := Lib.hid ((HXb.out.later HB5.out).far (p := ⟨gp, 4, none⟩) hgfp vz)
          have HBc := Lib.hid (below_set (i := 4) (u := vz) (below_call HBb4.out HB5.out) hgl)
          have HAc := Lib.hid ((HA5.out.less (base' := gr + 1) (by omega)).set_below (i := 4) (u := vz) (show gp < gr + 1 by omega))
          subst hvz
          obtain ⟨wc, hwc⟩ : ∃ y, y = w5.setCell ⟨gp, 4, none⟩ (.slice A2 (es.length - k) c2) := ⟨_, rfl⟩
          rw [← hwc] at HPc HRc HOc HXc HBc HAc
          rw [← hwc]
          clear hwc kr fr zr
          obtain ⟨n1, hn1⟩ : ∃ n : Nat, n = es.length - 1 := ⟨_, rfl⟩
          obtain ⟨y, hy⟩ : ∃ y, es[n1]? = some y := ⟨_, List.getElem?_eq_getElem (by omega)⟩
          have HLA : Hid ((lastE ⟨0, 0, 0⟩ (es.drop k)).idx = y.idx) := by
            have h2 : (es.drop k)[(es.drop k).length - 1]? = some y := by rw [List.getElem?_drop, List.length_drop, ← hy]; congr 1; omega
            show (lastE ⟨0, 0, 0⟩ (es.drop k)).idx = y.idx
            rw [lastE_get _ _ _ h2]; rfl
          have wn : IntKind.i64.wrap ((es.length : Int) - 1) = (n1 : Int) := by rw [IntWalk.i64_in _ (by omega)]; omega
          have j0 : (0 : Int) ≤ (n1 : Int) := by omega
          have j1 : (n1 : Int) < (es.length : Int) := by omega
          obtain ⟨eb2, off2, cap4, e4, -, -, hb4, hcell4⟩ := (HEs.out.later HBc.out).cellAt (by intro h; subst h; simp at hlt)
          simp only [Value.slice.injEq, Option.some.injEq, Addr.mk.injEq, and_true] at e4
          obtain ⟨⟨rfl, rfl⟩, -, rfl⟩ := e4
          have hs1 : (wc.cell? ⟨gf, 4, none⟩ = some (.slice (some ⟨eb, off, none⟩) es.length ce) ∧ wc.cell? ⟨eb, off + n1 * 4, none⟩ = some (.int .i64 y.idx)) := ⟨HXc.out.cell 4, hcell4 n1 y hy 0 _ rfl⟩
          have hs2 : ((wc.setCell ⟨gp, 1, none⟩ (.int .i64 y.idx)).cell? ⟨gf, 4, none⟩ = some (.slice (some ⟨eb, off, none⟩) es.length ce) ∧ (wc.setCell ⟨gp, 1, none⟩ (.int .i64 y.idx)).cell? ⟨eb, off + n1 * 4, none⟩ = some (.int .i64 y.idx)) := ⟨(HXc.out.far (p := ⟨gp, 1, none⟩) hgfp (.int .i64 y.idx)).cell 4, (World.cell?_of_block (a := ⟨eb, off + n1 * 4, none⟩) (Below.heap_setCell wc ⟨gp, 1, none⟩ _ eb (fun he => hebp he))).trans (hcell4 n1 y hy 0 _ rfl)⟩
          have hs1' : (wc.drew.cell? ⟨gf, 4, none⟩ = some (.slice (some ⟨eb, off, none⟩) es.length ce) ∧ wc.drew.cell? ⟨eb, off + n1 * 4, none⟩ = some (.int .i64 y.idx)) := hs1
          have hs2' : ((wc.setCell ⟨gp, 1, none⟩ (.int .i64 y.idx)).drew.cell? ⟨gf, 4, none⟩ = some (.slice (some ⟨eb, off, none⟩) es.length ce) ∧ (wc.setCell ⟨gp, 1, none⟩ (.int .i64 y.idx)).drew.cell? ⟨eb, off + n1 * 4, none⟩ = some (.int .i64 y.idx)) := hs2
          obtain ⟨kv, fv, zv⟩ := HPc.out.facts
          have HPd := Lib.hid (HPc.out.set_ 1 (.int .i64 y.idx))
          have HRd := Lib.hid (HRc.out.far (p := ⟨gp, 1, none⟩) (show gr ≠ gp from fun he => hgpr he.symm) (.int .i64 y.idx))
          have HOd := Lib.hid (HOc.out.set_below (i := 1) (u := .int .i64 y.idx) (show gp < gr + 1 by omega))
          have HBd := Lib.hid (below_set (i := 1) (u := .int .i64 y.idx) HBc.out hgl)
          have HAd := Lib.hid (HAc.out.set_below (i := 1) (u := .int .i64 y.idx) (show gp < gr + 1 by omega))
          clear hn1 hy hcell4 hs1 hs2 i0 i1 hck
          first | go_region_held3 (fun w' => (w'.cell? ⟨gf, 4, none⟩ = some (.slice (some ⟨eb, off, none⟩) es.length ce) ∧ w'.cell? ⟨eb, off + n1 * 4, none⟩ = some (.int .i64 y.idx)))
            (first | exact hs1' | exact hs2' | fail)
            (fail)
          have HPe := Lib.hid (show Box ((wc.setCell ⟨gp, 1, none⟩ (.int .i64 y.idx)).drew) gp #[.bool true, .int .i64 y.idx, .int .i64 (x.idx), .slice A1 s.length c1, .slice A2 (es.length - k) c2] 41 from box_drew HPd.out)
          have HRe := Lib.hid (show Box ((wc.setCell ⟨gp, 1, none⟩ (.int .i64 y.idx)).drew) gr #[.bool false, .int .i64 0, .int .i64 0, .slice none 0 0, .slice none 0 0] 41 from box_drew HRd.out)
          have HOe := Lib.hid (show Own 4 entRow 28 (gr + 1) ((wc.setCell ⟨gp, 1, none⟩ (.int .i64 y.idx)).drew) (.slice A1 s.length c1) s from HOd.out.drew)
          have HAe := Lib.hid (show Own 4 entRow 28 (gr + 1) ((wc.setCell ⟨gp, 1, none⟩ (.int .i64 y.idx)).drew) (.slice A2 (es.drop k).length c2) (es.drop k) from by have h := HAd.out.drew; exact h)
          have HBe := Lib.hid (show Below w.heap.size w ((wc.setCell ⟨gp, 1, none⟩ (.int .i64 y.idx)).drew) from HBd.out.drew)
          clear HPd HRd HOd HAd HBd HPc HRc HOc HXc HBc HAc hs1' hs2' kv fv zv
          obtain ⟨wd, hwd⟩ : ∃ z, z = (wc.setCell ⟨gp, 1, none⟩ (.int .i64 y.idx)).drew := ⟨_, rfl⟩
          rw [← hwd] at HPe HRe HOe HAe HBe
          rw [← hwd]
          clear hwd
          obtain ⟨kq, fq, zq⟩ := HPe.out.facts
          obtain ⟨ku, fu, zu⟩ := HRe.out.facts
          go_wp2_with fail
          refine bodyPost_with (fun W => Box W gr #[.bool true, .int .i64 y.idx, .int .i64 (x.idx), .slice A1 s.length c1, .slice A2 (es.length - k) c2] 41 ∧ Own 4 entRow 28 (gr + 1) W (.slice A1 s.length c1) s ∧ Own 4 entRow 28 (gr + 1) W (.slice A2 (es.drop k).length c2) (es.drop k) ∧ Below w.heap.size w W) ⟨HRe.out.set5 _ _ _ _ _, HOe.out.set5b (Nat.lt_succ_self gr) _ _ _ _ _, HAe.out.set5b (Nat.lt_succ_self gr) _ _ _ _ _, below_set5 HBe.out hgl2 _ _ _ _ _⟩ ?_
          rintro wz ⟨hz1, hz2, hz4, hz3⟩
          obtain ⟨kz, -, -⟩ := hz1.facts
          refine bodyPost_ret (v := .agg #[.bool true, .int .i64 y.idx, .int .i64 (x.idx), .slice A1 s.length c1, .slice A2 (es.length - k) c2]) (by simp [results, Tryz.results82, go_sem, kz]) rfl ?_
          have hfin := planPost_mk HQ.out (A1 := A1) (A2 := A2) (c1 := c1) (c2 := c2) (hz2.less (show w.heap.size ≤ gr + 1 by omega)) (hz4.less (show w.heap.size ≤ gr + 1 by omega)) hz3
          rw [HLA.out, HDL.out] at hfin
          exact hfin
        · have HW := Lib.hid (show whyF b l sh x.idx x.trm = misV x.idx (fitH b l x.idx) 3 from whyF_k (k := 3) (HKK.out.trans h9) (by omega))
          rw [HW.out]
          unfold misV
          have HQ := Lib.hid (HP.out.trans (planV_3 HXX.out (by have := HC1.out; omega) (HKK.out.trans h9)))
          obtain ⟨kp, fp, zp⟩ := HP2.out.facts
          obtain ⟨kr, fr, zr⟩ := HR2.out.facts
          go_wp2_with (go_at_call 99; refine (MatE.is_wrap _ _ _ _ _).mono ?_; rintro e w3 ⟨rfl, hb3⟩; rw [show ((3 : Int) == 3) = true from rfl]; have HB3 := Lib.hid (below_call HBw.out hb3); have HP3 := Lib.hid (HP2.out.later hb3); have HR3 := Lib.hid (HR2.out.later hb3); have HO3 := Lib.hid (HO2.out.later hb3); obtain ⟨kq, fq, zq⟩ := HP3.out.facts; obtain ⟨ku, fu, zu⟩ := HR3.out.facts; clear kp fp zp kr fr zr hb3)
          refine bodyPost_with (fun W => Box W gr #[.bool true, .int .i64 (ix), .int .i64 (0), .slice A1 s.length c1, .slice none 0 0] 41 ∧ Own 4 entRow 28 (gr + 1) W (.slice A1 s.length c1) s ∧ Below w.heap.size w W) ⟨HR3.out.set5 _ _ _ _ _, HO3.out.set5b (Nat.lt_succ_self gr) _ _ _ _ _, below_set5 HB3.out hgl2 _ _ _ _ _⟩ ?_
          rintro wz ⟨hz1, hz2, hz3⟩
          obtain ⟨kz, -, -⟩ := hz1.facts
          exact bodyPost_ret (v := .agg #[.bool true, .int .i64 (ix), .int .i64 (0), .slice A1 s.length c1, .slice none 0 0]) (by simp [results, Tryz.results82, go_sem, kz]) rfl (planPost_mk HQ.out (hz2.less (by omega)) (Own.nil_ _ _ _ _ _) hz3)
    · have d0 : decide ((k : Int) < (es.length : Int)) = false := decide_eq_false (by omega)
      have d0' : decide (k < es.length) = false := decide_eq_false hlt
      have HQ := Lib.hid (HP.out.trans (planV_end (by omega)))
      obtain ⟨kp, fp, zp⟩ := HBP.out.facts
      obtain ⟨kr, fr, zr⟩ := HBR.out.facts
      go_wp2_with fail
      refine bodyPost_with (fun W => Box W gr #[.bool true, .int .i64 (ix), .int .i64 (0), .slice A1 s.length c1, .slice none 0 0] 41 ∧ Own 4 entRow 28 (gr + 1) W (.slice A1 s.length c1) s ∧ Below w.heap.size w W) ⟨HBR.out.set5 _ _ _ _ _, HO.out.set5b (Nat.lt_succ_self gr) _ _ _ _ _, below_set5 HB.out hgl2 _ _ _ _ _⟩ ?_
      rintro wz ⟨hz1, hz2, hz3⟩
      obtain ⟨kz, -, -⟩ := hz1.facts
      exact bodyPost_ret (v := .agg #[.bool true, .int .i64 (ix), .int .i64 (0), .slice A1 s.length c1, .slice none 0 0]) (by simp [results, Tryz.results82, go_sem, kz]) rfl (planPost_mk HQ.out (hz2.less (by omega)) (Own.nil_ _ _ _ _ _) hz3)
end Go.Proofs.YtfglkpcboodllaaGreatDoor
