/-
  Merged: KitEnts2, MatchKit, Cls.
-/
import Derived.Test.YtfglkpcboodllaaGreatDoorMr14
import Derived.Test.YtfglkpcboodllaaGreatDoorMr20
import Derived.Test.YtfglkpcboodllaaGreatDoorMr25
import Derived.Test.YtfglkpcboodllaaGreatDoorMr4
/-
  limpetkit's KeptEntries: contract.
-/
set_option linter.unusedVariables false
set_option linter.unusedSimpArgs false
namespace Go.Proofs.YtfglkpcboodllaaGreatDoor
open Go.RowKit

set_option maxRecDepth 100000 in
set_option maxHeartbeats 4000000 in
theorem keptEntries (l l' : List Ent) (v v' : Value) (w : World) (hkey : l'.map keyE = l.map keyE) (h : Lnt 4 entRow marksE w.heap.size w v l') (hbod : ∀ x ∈ l', Lnt 1 u8Row marksB w.heap.size w x.bv x.bd) (h' : Sl 4 entRow w.heap.size w v' l) (hin : ∀ x ∈ l, EntIn w.heap.size w x ∧ x.bd.length ≤ 1000000) (hn : l.length ≤ 1000000) :
    Calls Tryz.prog 27 #[v, v'] w fun e w' => e = .returned (.bool true) ∧ Below w.heap.size w w' := by
  obtain ⟨g, cap, rfl, q1, q2, hg, hall⟩ := h
  obtain ⟨A', cap', rfl, hlc', hcm', -, hA'⟩ := h'
  have hll := keys_length hkey
  rw [hll, marksE_length] at q1
  rw [hll]
  have q2' : cap ≤ 9223372036854775807 := by unfold maxLen at q2; omega
  have HALL := Lib.hid hall
  have HA := Lib.hid hA'
  have HK := Lib.hid hkey
  have HBD := Lib.hid hbod
  have HIN := Lib.hid hin
  have HLL := Lib.hid hll
  clear hcm' q2 hall hA' hkey hbod hin hll
  go_enter Tryz.func27, Tryz.ntmps27
  go_wp2_with fail
  go_loopw [6] (fun i wr => ∃ k : Nat, k ≤ l.length + 12 ∧ i = .int .i64 k ∧ Below w.heap.size w wr) (fun i _ => l.length + 12 - (intOf i).toNat)
  case atStart => exact ⟨0, by omega, rfl, Below.refl _ _⟩
  case round =>
    obtain ⟨k, hk, rfl, hB⟩ := hrel
    have HB := Lib.hid hB
    have HC : Hid (∀ (zw : Ext wr) (b o : Nat), b < w.heap.size → zw.wd.cell? ⟨b, o, none⟩ = w.cell? ⟨b, o, none⟩) := fun zw b o hb => (hB.trans (zw.low.mono hB.size)).cell (p := ⟨b, o, none⟩) hb
    clear hB
    have i0 : (0 : Int) ≤ (k : Int) := by omega
    by_cases hlt : k < l.length
    · obtain ⟨b', off', rfl, hb', hcell'⟩ := HA.out (by intro h; subst h; simp at hlt)
      obtain ⟨x, hx⟩ : ∃ x, l[k]? = some x := ⟨_, List.getElem?_eq_getElem hlt⟩
      obtain ⟨Ax, cx, hx2⟩ := keys_at HK.out hx
      have hx3 : (l' ++ marksE)[k]? = some ⟨x.idx, x.trm, x.knd, Ax, cx, x.bd⟩ := by rw [List.getElem?_append_left (by have := HLL.out; omega)]; exact hx2
      have ca0 : ∀ zw : Ext wr, zw.wd.cell? ⟨g, k * 4, none⟩ = some (.int .i64 x.idx) := fun zw => (HC.out zw _ _ hg).trans (HALL.out k _ hx3 0 _ rfl)
      have ca1 : ∀ zw : Ext wr, zw.wd.cell? ⟨g, k * 4 + 1, none⟩ = some (.int .i64 x.trm) := fun zw => (HC.out zw _ _ hg).trans (HALL.out k _ hx3 1 _ rfl)
      have ca2 : ∀ zw : Ext wr, zw.wd.cell? ⟨g, k * 4 + 2, none⟩ = some (.int .i64 x.knd) := fun zw => (HC.out zw _ _ hg).trans (HALL.out k _ hx3 2 _ rfl)
      have ca3 : ∀ zw : Ext wr, zw.wd.cell? ⟨g, k * 4 + 3, none⟩ = some (.slice Ax x.bd.length cx) := fun zw => (HC.out zw _ _ hg).trans (HALL.out k _ hx3 3 _ rfl)
      have cb0 : ∀ zw : Ext wr, zw.wd.cell? ⟨b', off' + k * 4, none⟩ = some (.int .i64 x.idx) := fun zw => (HC.out zw _ _ hb').trans (hcell' k x hx 0 _ rfl)
      have cb1 : ∀ zw : Ext wr, zw.wd.cell? ⟨b', off' + k * 4 + 1, none⟩ = some (.int .i64 x.trm) := fun zw => (HC.out zw _ _ hb').trans (hcell' k x hx 1 _ rfl)
      have cb2 : ∀ zw : Ext wr, zw.wd.cell? ⟨b', off' + k * 4 + 2, none⟩ = some (.int .i64 x.knd) := fun zw => (HC.out zw _ _ hb').trans (hcell' k x hx 2 _ rfl)
      have cb3 : ∀ zw : Ext wr, zw.wd.cell? ⟨b', off' + k * 4 + 3, none⟩ = some (.slice x.ba x.bd.length x.bc) := fun zw => (HC.out zw _ _ hb').trans (hcell' k x hx 3 _ rfl)
      obtain ⟨xi, xn⟩ := HIN.out x (List.mem_of_getElem? hx)
      have hbl := HBD.out _ (List.mem_of_getElem? hx2)
      have CK := Lib.hid (show ∀ x5 : Ext wr, Calls Tryz.prog 89 #[.agg #[.int .i64 x.idx, .int .i64 x.trm, .int .i64 x.knd, .slice Ax x.bd.length cx], .agg #[.int .i64 x.idx, .int .i64 x.trm, .int .i64 x.knd, .slice x.ba x.bd.length x.bc]] x5.wd (fun e w' => e = .returned (.bool true) ∧ Below x5.wd.heap.size x5.wd w') from fun x5 => keptEntry x Ax cx x5.wd (((hbl.below HB.out).more HB.out.size).later x5.low) ((((xi.below HB.out).more HB.out.size).later x5.low).1) xn)
      have i1 : (k : Int) < (l.length : Int) := by omega
      have i2 : (k : Int) < (l.length : Int) + 12 := by omega
      have d1 : decide (k < l.length) = true := by simpa using hlt
      have d2 : decide (l.length ≤ k) = false := by simpa using hlt
      have d3 : decide ((k : Int) < (l.length : Int)) = true := decide_eq_true i1
      have d4 : decide ((l.length : Int) ≤ (k : Int)) = false := decide_eq_false (by omega)
      have d5 : decide ((k : Int) < (l.length : Int) + 12) = true := decide_eq_true i2
      clear hcell' hx hx2 hx3 hbl xi xn
      go_upto_region 7 with fail
      refine wp_region_ext (by kernel_rfl) (by kernel_rfl) ?_
      repeat (go_big_quiet_step ((rename_i x5; have h5 := x5.low; first
        | (go_at_call 89; exact ext_of x5 (CK.out x5)))))
      refine wpQuiet_nil ?_
      intro _ hw'
      obtain ⟨x5, hw''⟩ := hw'
      subst hw''
      go_wp2_with fail
      go_roundw
      case rel => exact ⟨k + 1, by omega, by go_num, HB.out.trans (x5.low.mono HB.out.size)⟩
      case measure => simp [intOf]; omega
    · by_cases hlt2 : k < l.length + 12
      · obtain ⟨j, hj⟩ : ∃ j, j = k - l.length := ⟨_, rfl⟩
        have hx3 : (l' ++ marksE)[k]? = some (mrkE j) := by rw [hj, List.getElem?_append_right (by have := HLL.out; omega), HLL.out]; exact marksE_at (by omega)
        have cm0 : ∀ zw : Ext wr, zw.wd.cell? ⟨g, k * 4, none⟩ = some (.int .i64 (mkI 1 (j : Int))) := fun zw => (HC.out zw _ _ hg).trans (HALL.out k _ hx3 0 _ rfl)
        have cm1 : ∀ zw : Ext wr, zw.wd.cell? ⟨g, k * 4 + 1, none⟩ = some (.int .i64 0) := fun zw => (HC.out zw _ _ hg).trans (HALL.out k _ hx3 1 _ rfl)
        have cm2 : ∀ zw : Ext wr, zw.wd.cell? ⟨g, k * 4 + 2, none⟩ = some (.int .i64 0) := fun zw => (HC.out zw _ _ hg).trans (HALL.out k _ hx3 2 _ rfl)
        have cm3 : ∀ zw : Ext wr, zw.wd.cell? ⟨g, k * 4 + 3, none⟩ = some (.slice none 0 0) := fun zw => (HC.out zw _ _ hg).trans (HALL.out k _ hx3 3 _ rfl)
        have i1 : (l.length : Int) ≤ (k : Int) := by omega
        have i2 : (k : Int) < (l.length : Int) + 12 := by omega
        have d1 : decide (k < l.length) = false := by simpa using hlt
        have d2 : decide (l.length ≤ k) = true := by simpa using hlt
        have d3 : decide ((k : Int) < (l.length : Int)) = false := decide_eq_false (by omega)
        have d4 : decide ((l.length : Int) ≤ (k : Int)) = true := decide_eq_true i1
        have d5 : decide ((k : Int) < (l.length : Int) + 12) = true := decide_eq_true i2
        have w1 : IntKind.i64.wrap ((k : Int) - (l.length : Int)) = (j : Int) := by rw [IntWalk.i64_in _ (by omega)]; omega
        have m0 : (0 : Int) ≤ (j : Int) := by omega
        have m1 : (j : Int) ≤ 1000000 := by omega
        have CS := Lib.hid (show ∀ x5 : Ext wr, Calls Tryz.prog 90 #[.agg #[.int .i64 (mkI 1 (j : Int)), .int .i64 0, .int .i64 0, .slice none 0 0], .agg #[.int .i64 (mkI 1 (j : Int)), .int .i64 0, .int .i64 0, .slice none 0 0]] x5.wd (fun e w' => e = .returned (.bool true) ∧ Below x5.wd.heap.size x5.wd w') from fun x5 => sameEntry (mrkE j) none 0 x5.wd (Sl.nil_ _ _ _ _) (Sl.nil_ _ _ _ _))
        clear hlt hj hx3
        go_upto_region 7 with fail
        refine wp_region_ext (by kernel_rfl) (by kernel_rfl) ?_
        repeat (go_big_quiet_step ((rename_i x5; have h5 := x5.low; first
          | (go_at_call 78; exact ext_of x5 (markEntryAny 1 (j : Int) x5.wd (by omega) (by omega) m0 m1))
          | (go_at_call 90; exact ext_of x5 (CS.out x5)))))
        refine wpQuiet_nil ?_
        intro _ hw'
        obtain ⟨x5, hw''⟩ := hw'
        subst hw''
        clear w1
        go_wp2_with fail
        go_roundw
        case rel => exact ⟨k + 1, by omega, by go_num, HB.out.trans (x5.low.mono HB.out.size)⟩
        case measure => simp [intOf]; omega
      · have d5 : decide ((k : Int) < (l.length : Int) + 12) = false := decide_eq_false (by omega)
        go_wp2_with fail
        go_ret
        exact ⟨rfl, HB.out⟩
end Go.Proofs.YtfglkpcboodllaaGreatDoor
/-
  match.Fit, limpetref20.Fit, whatever comes; limpetkit's SameEntries; limpetlaw20's same, ref: contracts.
-/
set_option linter.unusedVariables false
set_option linter.unusedSimpArgs false
namespace Go.Proofs.YtfglkpcboodllaaGreatDoor
open Go.RowKit

theorem shownV_key {b : Idt} {l : List Idt} : ∀ {x y : List Ent} (h : x.map keyE = y.map keyE) (s : Int), shownV b l s x = shownV b l s y := by
  intro x
  induction x with
  | nil =>
    intro y h s
    cases y with
    | nil => rfl
    | cons z y => simp at h
  | cons u x ih =>
    intro y h s
    cases y with
    | nil => simp at h
    | cons z y =>
      simp only [List.map_cons, List.cons.injEq] at h
      obtain ⟨h1, h2, h3, h4⟩ := keyE_eq h.1
      have hs : showsE b l u = showsE b l z := by unfold showsE; rw [h1, h2]
      simp only [shownV]
      rw [hs, h1]
      exact ih h.2 _
theorem planV_key {b : Idt} {l : List Idt} {sh : Int} : ∀ {x y : List Ent} (h : x.map keyE = y.map keyE) (ix : Int) {s t : List Ent} (hst : s.map keyE = t.map keyE),
    (planV b l sh x ix s).idx = (planV b l sh y ix t).idx ∧ (planV b l sh x ix s).cut = (planV b l sh y ix t).cut ∧ (planV b l sh x ix s).same.map keyE = (planV b l sh y ix t).same.map keyE ∧ (planV b l sh x ix s).add.map keyE = (planV b l sh y ix t).add.map keyE := by
  intro x
  induction x with
  | nil =>
    intro y h ix s t hst
    cases y with
    | nil => exact ⟨rfl, rfl, hst, rfl⟩
    | cons z y => simp at h
  | cons u x ih =>
    intro y h ix s t hst
    cases y with
    | nil => simp at h
    | cons z y =>
      have hall := h
      simp only [List.map_cons, List.cons.injEq] at h
      obtain ⟨h1, h2, h3, h4⟩ := keyE_eq h.1
      have hla : (lastE ⟨0, 0, 0⟩ (u :: x)).idx = (lastE ⟨0, 0, 0⟩ (z :: y)).idx := by rw [lastE_key hall]
      simp only [planV]
      rw [h1, h2]
      by_cases hlo : z.idx ≤ b.idx
      · rw [if_pos hlo, if_pos hlo]; exact ih h.2 ix hst
      · rw [if_neg hlo, if_neg hlo]
        have hk := fitK_lt (b := b) (l := l) (sh := sh) (i := z.idx) (t := z.trm)
        obtain ⟨n, hn⟩ : ∃ n, fitK b l sh z.idx z.trm = n := ⟨_, rfl⟩
        rw [hn] at hk ⊢
        rcases (by omega : n = 0 ∨ n = 1 ∨ n = 2 ∨ n = 3) with rfl | rfl | rfl | rfl
        · exact ih h.2 z.idx (by simp only [List.map_append, List.map_cons, List.map_nil]; rw [hst, h.1])
        · exact ⟨hla, rfl, hst, hall⟩
        · exact ⟨hla, rfl, hst, hall⟩
        · exact ⟨rfl, rfl, hst, rfl⟩
/-- What Fit tells, whatever comes. -/
def FitV (b p : Idt) (l : List Idt) (es : List Ent) : Bool × Pln × Int :=
  if rightV b l = true ∧ folE p es = 0 then (if fitK b l (shownV b l 0 es) p.idx p.trm = 0 then (true, planV b l (shownV b l 0 es) es (max p.idx b.idx) [], 0) else (false, ⟨fitH b l p.idx, 0, [], []⟩, 0)) else (false, ⟨0, 0, [], []⟩, 2)
theorem fitV_key {b p : Idt} {l : List Idt} {x y : List Ent} (h : x.map keyE = y.map keyE) :
    (FitV b p l x).1 = (FitV b p l y).1 ∧ (FitV b p l x).2.2 = (FitV b p l y).2.2 ∧ (FitV b p l x).2.1.idx = (FitV b p l y).2.1.idx ∧ (FitV b p l x).2.1.cut = (FitV b p l y).2.1.cut ∧ (FitV b p l x).2.1.same.map keyE = (FitV b p l y).2.1.same.map keyE ∧ (FitV b p l x).2.1.add.map keyE = (FitV b p l y).2.1.add.map keyE := by
  unfold FitV
  rw [folE_key h, shownV_key h]
  by_cases h1 : rightV b l = true ∧ folE p y = 0
  · rw [if_pos h1, if_pos h1]
    by_cases h2 : fitK b l (shownV b l 0 y) p.idx p.trm = 0
    · rw [if_pos h2, if_pos h2]
      have := planV_key (b := b) (l := l) (sh := shownV b l 0 y) h (max p.idx b.idx) (s := []) (t := []) rfl
      exact ⟨rfl, rfl, this.1, this.2.1, this.2.2.1, this.2.2.2⟩
    · rw [if_neg h2, if_neg h2]; exact ⟨rfl, rfl, rfl, rfl, rfl, rfl⟩
  · rw [if_neg h1, if_neg h1]; exact ⟨rfl, rfl, rfl, rfl, rfl, rfl⟩
def FitPost (v : Bool × Pln × Int) (w : World) (e : Ending) (w' : World) : Prop :=
  ∃ mid A1 c1 m1 A2 c2 m2, e = .returned (.tuple #[.agg #[.bool v.1, .int .i64 v.2.1.idx, .int .i64 v.2.1.cut, .slice A1 v.2.1.same.length c1, .slice A2 v.2.1.add.length c2], .int .i64 v.2.2]) ∧ Rs w.heap.size w' A1 c1 v.2.1.same m1 ∧ Rs w.heap.size w' A2 c2 v.2.1.add m2 ∧ Below w.heap.size w w' ∧ (∀ x, RsBlk A1 c1 v.2.1.same.length m1 x → x < mid) ∧ Rs mid w' A2 c2 v.2.1.add m2
theorem Rs.nil_ (B : Nat) (w : World) : Rs B w none 0 [] [] := ⟨rfl, Own.nil_ _ _ _ _ _, BodFam.nil_ _ _ _⟩
theorem rsBlk_nil {x : Nat} (h : RsBlk none 0 0 [] x) : False := by
  rcases h with h | ⟨i, y, h, -⟩
  · rw [blkH_none] at h; cases h
  · simp at h
theorem fitPost_no {ix : Int} {er : Int} {w w' : World} (hb : Below w.heap.size w w') : FitPost (false, ⟨ix, 0, [], []⟩, er) w (.returned (.tuple #[.agg #[.bool false, .int .i64 ix, .int .i64 0, .slice none 0 0, .slice none 0 0], .int .i64 er])) w' :=
  ⟨0, none, 0, [], none, 0, [], rfl, Rs.nil_ _ _, Rs.nil_ _ _, hb, fun x hx => (rsBlk_nil hx).elim, Rs.nil_ _ _⟩
theorem matchFit (b p : Idt) (l : List Idt) (A : Option Addr) (c : Nat) (es : List Ent) (Ae : Option Addr) (ce : Nat) (w : World) (h : Sl 3 idRow w.heap.size w (.slice A l.length c) l) (he : Sl 4 entRow w.heap.size w (.slice Ae es.length ce) es) (hein : ∀ x ∈ es, EntIn w.heap.size w x ∧ x.bd.length ≤ 100000) (hn : es.length ≤ 100000) (hb : I64 b.idx) (hp : I64 p.idx) (hin : ∀ q ∈ l, I64 q.idx) (hix : ∀ x ∈ es, I64 x.idx) (hG : errTypeIs w) : Calls Tryz.prog 16 #[.agg #[.int .i64 b.idx, .int .i64 b.trm, .int .i64 b.knd, .slice A l.length c], .agg #[.int .i64 p.idx, .int .i64 p.trm, .int .i64 p.knd], .slice Ae es.length ce] w (FitPost (FitV b p l es) w) := by
  unfold FitV
  by_cases h1 : rightV b l = true ∧ folE p es = 0
  · rw [if_pos h1]
    by_cases h2 : fitK b l (shownV b l 0 es) p.idx p.trm = 0
    · rw [if_pos h2]
      exact (fitYesA b p l A c es Ae ce w h he hein hn hb hp hin hix hG h1.1 h1.2 h2).mono fun e w' ⟨mid, A1, c1, m1, A2, c2, m2, he, k1, k2, k3, k4, k5⟩ => ⟨mid, A1, c1, m1, A2, c2, m2, he, k1, k2, k3, k4, k5⟩
    · rw [if_neg h2]
      exact (fitNo b p l A c es Ae ce w h he hein hn hb hp hin hix hG h1.1 h1.2 h2).mono fun e w' ⟨he, hb⟩ => by subst he; exact fitPost_no hb
  · rw [if_neg h1]
    cases hr : rightV b l with
    | false => exact (fitWrong b p l A c es Ae ce w h he hein hn hb hp hin hix hG hr).mono fun e w' ⟨he, hb⟩ => by subst he; exact fitPost_no hb
    | true => exact (fitNone b p l A c es Ae ce w h he hein hn hb hp hin hix hG hr (fun hf => h1 ⟨hr, hf⟩)).mono fun e w' ⟨he, hb⟩ => by subst he; exact fitPost_no hb
def RefPost (v : Bool × Pln × Int) (w : World) (e : Ending) (w' : World) : Prop :=
  ∃ A1 c1 A2 c2, e = .returned (.tuple #[.agg #[.bool v.1, .int .i64 v.2.1.idx, .int .i64 v.2.1.cut, .slice A1 v.2.1.same.length c1, .slice A2 v.2.1.add.length c2], .int .i64 v.2.2]) ∧ Own 4 entRow 28 w.heap.size w' (.slice A1 v.2.1.same.length c1) v.2.1.same ∧ Own 4 entRow 28 w.heap.size w' (.slice A2 v.2.1.add.length c2) v.2.1.add ∧ Below w.heap.size w w'
theorem refPost_no {ix : Int} {er : Int} {w w' : World} (hb : Below w.heap.size w w') : RefPost (false, ⟨ix, 0, [], []⟩, er) w (.returned (.tuple #[.agg #[.bool false, .int .i64 ix, .int .i64 0, .slice none 0 0, .slice none 0 0], .int .i64 er])) w' :=
  ⟨none, 0, none, 0, rfl, Own.nil_ _ _ _ _ _, Own.nil_ _ _ _ _ _, hb⟩
theorem ref20Fit (b p : Idt) (l : List Idt) (A : Option Addr) (c : Nat) (es : List Ent) (Ae : Option Addr) (ce : Nat) (w : World) (h : Sl 3 idRow w.heap.size w (.slice A l.length c) l) (he : Sl 4 entRow w.heap.size w (.slice Ae es.length ce) es) (hein : ∀ x ∈ es, EntIn w.heap.size w x ∧ x.bd.length ≤ 100000) (hn : es.length ≤ 100000) (hb : I64 b.idx) (hp : I64 p.idx) (hin : ∀ q ∈ l, I64 q.idx) (hix : ∀ x ∈ es, I64 x.idx) : Calls Tryz.prog 17 #[.agg #[.int .i64 b.idx, .int .i64 b.trm, .int .i64 b.knd, .slice A l.length c], .agg #[.int .i64 p.idx, .int .i64 p.trm, .int .i64 p.knd], .slice Ae es.length ce] w (RefPost (FitV b p l es) w) := by
  have hein2 : ∀ x ∈ es, EntIn w.heap.size w x := fun x hx => (hein x hx).1
  unfold FitV
  by_cases h1 : rightV b l = true ∧ folE p es = 0
  · rw [if_pos h1]
    by_cases h2 : fitK b l (shownV b l 0 es) p.idx p.trm = 0
    · rw [if_pos h2]
      exact (ref20FitYes b p l A c es Ae ce w h he hein2 hn hb hp hin hix h1.1 h1.2 h2).mono fun e w' ⟨A1, c1, A2, c2, he, k1, k2, k3⟩ => ⟨A1, c1, A2, c2, he, k1, k2, k3⟩
    · rw [if_neg h2]
      exact (ref20FitNo b p l A c es Ae ce w h he hein2 hn hb hp hin hix h1.1 h1.2 h2).mono fun e w' ⟨he, hb⟩ => by subst he; exact refPost_no hb
  · rw [if_neg h1]
    cases hr : rightV b l with
    | false => exact (ref20FitWrong b p l A c es Ae ce w h he hein2 hn hb hp hin hix hr).mono fun e w' ⟨he, hb⟩ => by subst he; exact refPost_no hb
    | true => exact (ref20FitNone b p l A c es Ae ce w h he hein2 hn hb hp hin hix hr (fun hf => h1 ⟨hr, hf⟩)).mono fun e w' ⟨he, hb⟩ => by subst he; exact refPost_no hb
theorem fitV_sub {b p : Idt} {l : List Idt} {es : List Ent} : (∀ x ∈ (FitV b p l es).2.1.same, x ∈ es) ∧ (FitV b p l es).2.1.same.length ≤ es.length ∧ (∀ x ∈ (FitV b p l es).2.1.add, x ∈ es) ∧ (FitV b p l es).2.1.add.length ≤ es.length := by
  unfold FitV
  by_cases h1 : rightV b l = true ∧ folE p es = 0
  · rw [if_pos h1]
    by_cases h2 : fitK b l (shownV b l 0 es) p.idx p.trm = 0
    · rw [if_pos h2]; exact plan_sub h1.2 rfl
    · rw [if_neg h2]; exact ⟨fun x hx => by simp at hx, by simp, fun x hx => by simp at hx, by simp⟩
  · rw [if_neg h1]; exact ⟨fun x hx => by simp at hx, by simp, fun x hx => by simp at hx, by simp⟩

set_option maxRecDepth 100000 in
set_option maxHeartbeats 2000000 in
/-- Entries that are alike. -/
theorem sameEntries (l m : List Ent) (v v' : Value) (w : World) (hkey : l.map keyE = m.map keyE) (h : Sl 4 entRow w.heap.size w v l) (h' : Sl 4 entRow w.heap.size w v' m) (hb : ∀ x ∈ l, Sl 1 u8Row w.heap.size w x.bv x.bd) (hb' : ∀ x ∈ m, Sl 1 u8Row w.heap.size w x.bv x.bd) :
    Calls Tryz.prog 88 #[v, v'] w fun e w' => e = .returned (.bool true) ∧ Below w.heap.size w w' := by
  have hlm := keys_length hkey
  obtain ⟨A, cp, rfl, hlc, hcm, -, -⟩ := id h
  obtain ⟨A', cp', rfl, hlc', hcm', -, -⟩ := id h'
  have hln : l.length ≤ 9223372036854775807 := by unfold maxLen at hcm; omega
  rw [← hlm]
  have HS := Lib.hid h
  have HS' := Lib.hid h'
  have HB := Lib.hid hb
  have HB' := Lib.hid hb'
  have HK := Lib.hid hkey
  clear h h' hb hb' hkey hcm hcm' hlc hlc'
  go_enter Tryz.func88, Tryz.ntmps88
  go_wp2_with fail
  go_loopw [5] (fun i wr => ∃ k : Nat, k ≤ l.length ∧ i = .int .i64 k ∧ Below w.heap.size w wr) (fun i _ => l.length - (intOf i).toNat)
  case atStart => exact ⟨0, by omega, rfl, Below.refl _ _⟩
  case round =>
    obtain ⟨k, hk, rfl, hB⟩ := hrel
    have HW := Lib.hid hB
    clear hB
    have i0 : (0 : Int) ≤ (k : Int) := by omega
    by_cases hlt : k < l.length
    · have i1 : (k : Int) < (l.length : Int) := by omega
      have d0 : decide ((k : Int) < (l.length : Int)) = true := decide_eq_true i1
      have d0' : decide (k < l.length) = true := decide_eq_true hlt
      obtain ⟨y, hy⟩ : ∃ y, m[k]? = some y := ⟨_, List.getElem?_eq_getElem (by omega)⟩
      obtain ⟨Ax, cx, hx⟩ := keys_at HK.out hy
      obtain ⟨bb, off, q3, e3, -, hcm3, hb3, hcell⟩ := HS.out.cellAt (by intro h; subst h; simp at hlt)
      simp only [Value.slice.injEq] at e3
      obtain ⟨rfl, -, rfl⟩ := e3
      obtain ⟨b2, off2, q2, e2, hlc2, hcm2, hb2, hcell2⟩ := HS'.out.cellAt (by intro h; subst h; simp at hy)
      simp only [Value.slice.injEq] at e2
      obtain ⟨rfl, -, rfl⟩ := e2
      rw [← hlm] at hlc2
      have kx0 : ∀ zw : Ext wr, zw.wd.cell? ⟨bb, off + k * 4, none⟩ = some (.int .i64 y.idx) := fun zw => ((below_call HW.out zw.low).cell (p := ⟨bb, off + k * 4 + 0, none⟩) hb3).trans (hcell k _ hx 0 _ rfl)
      have kx1 : ∀ zw : Ext wr, zw.wd.cell? ⟨bb, off + k * 4 + 1, none⟩ = some (.int .i64 y.trm) := fun zw => ((below_call HW.out zw.low).cell (p := ⟨bb, off + k * 4 + 1, none⟩) hb3).trans (hcell k _ hx 1 _ rfl)
      have kx2 : ∀ zw : Ext wr, zw.wd.cell? ⟨bb, off + k * 4 + 2, none⟩ = some (.int .i64 y.knd) := fun zw => ((below_call HW.out zw.low).cell (p := ⟨bb, off + k * 4 + 2, none⟩) hb3).trans (hcell k _ hx 2 _ rfl)
      have kx3 : ∀ zw : Ext wr, zw.wd.cell? ⟨bb, off + k * 4 + 3, none⟩ = some (.slice Ax y.bd.length cx) := fun zw => ((below_call HW.out zw.low).cell (p := ⟨bb, off + k * 4 + 3, none⟩) hb3).trans (hcell k _ hx 3 _ rfl)
      have ky0 : ∀ zw : Ext wr, zw.wd.cell? ⟨b2, off2 + k * 4, none⟩ = some (.int .i64 y.idx) := fun zw => ((below_call HW.out zw.low).cell (p := ⟨b2, off2 + k * 4 + 0, none⟩) hb2).trans (hcell2 k _ hy 0 _ rfl)
      have ky1 : ∀ zw : Ext wr, zw.wd.cell? ⟨b2, off2 + k * 4 + 1, none⟩ = some (.int .i64 y.trm) := fun zw => ((below_call HW.out zw.low).cell (p := ⟨b2, off2 + k * 4 + 1, none⟩) hb2).trans (hcell2 k _ hy 1 _ rfl)
      have ky2 : ∀ zw : Ext wr, zw.wd.cell? ⟨b2, off2 + k * 4 + 2, none⟩ = some (.int .i64 y.knd) := fun zw => ((below_call HW.out zw.low).cell (p := ⟨b2, off2 + k * 4 + 2, none⟩) hb2).trans (hcell2 k _ hy 2 _ rfl)
      have ky3 : ∀ zw : Ext wr, zw.wd.cell? ⟨b2, off2 + k * 4 + 3, none⟩ = some (.slice y.ba y.bd.length y.bc) := fun zw => ((below_call HW.out zw.low).cell (p := ⟨b2, off2 + k * 4 + 3, none⟩) hb2).trans (hcell2 k _ hy 3 _ rfl)
      have HBx := Lib.hid (HB.out _ (List.mem_of_getElem? hx))
      have HBy := Lib.hid (HB'.out y (List.mem_of_getElem? hy))
      clear hcell hcell2 hx hy
      go_upto_region 6 with fail
      refine wp_region_ext (by kernel_rfl) (by kernel_rfl) ?_
      repeat (go_big_quiet_step ((rename_i x5; have h5 := x5.low; first
        | (go_at_call 90; exact ext_of x5 (sameEntry ⟨y.idx, y.trm, y.knd, Ax, cx, y.bd⟩ y.ba y.bc x5.wd (HBx.out.later (below_call HW.out x5.low)) (HBy.out.later (below_call HW.out x5.low)))))))
      refine wpQuiet_nil ?_
      intro _ hw'
      obtain ⟨x9, hw''⟩ := hw'
      subst hw''
      go_wp2_with fail
      go_roundw
      case rel => exact ⟨k + 1, by omega, by go_num, below_call HW.out x9.low⟩
      case measure => simp [intOf]; omega
    · have d0 : decide ((k : Int) < (l.length : Int)) = false := decide_eq_false (by omega)
      have d0' : decide (k < l.length) = false := decide_eq_false hlt
      go_wp2_with fail
      go_ret
      exact ⟨rfl, HW.out⟩

set_option maxRecDepth 100000 in
set_option maxHeartbeats 2000000 in
/-- Plans that are alike. -/
theorem law20Same (y : Bool) (ix cu : Int) (A1 A2 B1 B2 : Option Addr) (c1 c2 k1 k2 : Nat) (s d m1 m2 n1 n2 : List Ent) (w : World) (h1 : Sl 4 entRow w.heap.size w (.slice A1 s.length c1) m1) (h2 : Sl 4 entRow w.heap.size w (.slice A2 d.length c2) m2) (g1 : Sl 4 entRow w.heap.size w (.slice B1 s.length k1) n1) (g2 : Sl 4 entRow w.heap.size w (.slice B2 d.length k2) n2)
    (e1 : m1.map keyE = n1.map keyE) (e2 : m2.map keyE = n2.map keyE) (b1 : ∀ x ∈ m1, Sl 1 u8Row w.heap.size w x.bv x.bd) (b2 : ∀ x ∈ m2, Sl 1 u8Row w.heap.size w x.bv x.bd) (b3 : ∀ x ∈ n1, Sl 1 u8Row w.heap.size w x.bv x.bd) (b4 : ∀ x ∈ n2, Sl 1 u8Row w.heap.size w x.bv x.bd) :
    Calls Tryz.prog 25 #[.agg #[.bool y, .int .i64 ix, .int .i64 cu, .slice A1 s.length c1, .slice A2 d.length c2], .agg #[.bool y, .int .i64 ix, .int .i64 cu, .slice B1 s.length k1, .slice B2 d.length k2]] w fun e w' => e = .returned (.bool true) ∧ Below w.heap.size w w' := by
  have BW : Below w.heap.size w ((w.alloc (.cells #[.bool y, .int .i64 ix, .int .i64 cu, .slice A1 s.length c1, .slice A2 d.length c2] 41)).alloc (.cells #[.bool y, .int .i64 ix, .int .i64 cu, .slice B1 s.length k1, .slice B2 d.length k2] 45)) := below_call (below_new _ _) (below_new _ _)
  have HX0 := Lib.hid ((Box.new w #[.bool y, .int .i64 ix, .int .i64 cu, .slice A1 s.length c1, .slice A2 d.length c2] 41).alloc (.cells #[.bool y, .int .i64 ix, .int .i64 cu, .slice B1 s.length k1, .slice B2 d.length k2] 45))
  have HX1 := Lib.hid (Box.new (w.alloc (.cells #[.bool y, .int .i64 ix, .int .i64 cu, .slice A1 s.length c1, .slice A2 d.length c2] 41)) #[.bool y, .int .i64 ix, .int .i64 cu, .slice B1 s.length k1, .slice B2 d.length k2] 45)
  rw [World.size_alloc] at HX1
  obtain ⟨W, hW⟩ : ∃ W, W = (w.alloc (.cells #[.bool y, .int .i64 ix, .int .i64 cu, .slice A1 s.length c1, .slice A2 d.length c2] 41)).alloc (.cells #[.bool y, .int .i64 ix, .int .i64 cu, .slice B1 s.length k1, .slice B2 d.length k2] 45) := ⟨_, rfl⟩
  have HE := Lib.hid hW
  rw [← hW] at HX0 HX1 BW
  have HB0 := Lib.hid BW
  have C1 := Lib.hid (sameEntries m1 n1 _ _ W e1 (h1.later BW) (g1.later BW) (fun x hx => (b1 x hx).later BW) (fun x hx => (b3 x hx).later BW))
  have C2 : Hid (∀ v, Below W.heap.size W v → Calls Tryz.prog 88 #[.slice A2 d.length c2, .slice B2 d.length k2] v (fun e w' => e = .returned (.bool true) ∧ Below v.heap.size v w')) := fun v hv => sameEntries m2 n2 _ _ v e2 ((h2.later BW).later hv) ((g2.later BW).later hv) (fun x hx => ((b2 x hx).later BW).later hv) (fun x hx => ((b4 x hx).later BW).later hv)
  clear h1 h2 g1 g2 e1 e2 b1 b2 b3 b4 BW hW
  obtain ⟨k0, f0, z0⟩ := HX0.out.facts
  obtain ⟨q0, r0, s0⟩ := HX1.out.facts
  cases y with
  | true =>
    go_enter Tryz.func25, Tryz.ntmps25
    go_upto_region 1 with fail
    rw [← HE.out]
    go_wp2_with (first
      | (go_at_call 88; (with_reducible refine C1.out.mono ?_); rintro e w3 ⟨rfl, hb3⟩; have H3 := Lib.hid hb3; obtain ⟨k3, f3, z3⟩ := (HX0.out.later hb3).facts; obtain ⟨q3, r3, s3⟩ := (HX1.out.later hb3).facts; clear hb3 k0 f0 z0 q0 r0 s0)
      | (go_at_call 88; (with_reducible refine (C2.out w3 H3.out).mono ?_); rintro e w4 ⟨rfl, hb4⟩))
    go_ret
    exact ⟨rfl, below_call HB0.out (below_call H3.out hb4)⟩
  | false =>
    go_enter Tryz.func25, Tryz.ntmps25
    go_upto_region 1 with fail
    rw [← HE.out]
    go_wp2_with (first
      | (go_at_call 88; (with_reducible refine C1.out.mono ?_); rintro e w3 ⟨rfl, hb3⟩; have H3 := Lib.hid hb3; obtain ⟨k3, f3, z3⟩ := (HX0.out.later hb3).facts; obtain ⟨q3, r3, s3⟩ := (HX1.out.later hb3).facts; clear hb3 k0 f0 z0 q0 r0 s0)
      | (go_at_call 88; (with_reducible refine (C2.out w3 H3.out).mono ?_); rintro e w4 ⟨rfl, hb4⟩))
    go_ret
    exact ⟨rfl, below_call HB0.out (below_call H3.out hb4)⟩

set_option maxRecDepth 100000 in
set_option maxHeartbeats 2000000 in
theorem law20Ref (b : Idt) (v : Value) (A : Option Addr) (n c : Nat) (w : World) (hv : v = .slice A n c) :
    Calls Tryz.prog 18 #[.agg #[.int .i64 b.idx, .int .i64 b.trm, .int .i64 b.knd, v]] w fun e w' => e = .returned (.agg #[.int .i64 b.idx, .int .i64 b.trm, .int .i64 b.knd, v]) ∧ Below w.heap.size w w' := by
  subst hv
  go_enter Tryz.func18, Tryz.ntmps18
  go_wp2_with fail
  refine bodyPost_ret (v := .agg #[.int .i64 b.idx, .int .i64 b.trm, .int .i64 b.knd, .slice A n c]) (by simp [results, Tryz.results18, go_sem]) rfl ⟨rfl, ?_⟩
  first | exact below_call (below_new _ _) (below_new _ _) | (repeat (first | exact Below.refl _ _ | refine Below.alloc ?_ (by simp) _ | refine below_set ?_ (by simp)))
end Go.Proofs.YtfglkpcboodllaaGreatDoor
/-
  A REGION walked once over any class of worlds that is closed under a draw: laws that name no program.
-/
set_option linter.unusedVariables false
namespace Go.Proofs.YtfglkpcboodllaaGreatDoor
open Go.RowKit

def Cls (C : World → Prop) : Type := { w : World // C w }
def Cls.wd {C : World → Prop} (x : Cls C) : World := x.val
theorem Cls.is {C : World → Prop} (x : Cls C) : C x.wd := x.property
def Cls.mk {C : World → Prop} {w : World} (h : C w) : Cls C := ⟨w, h⟩
theorem wp_region_cls {P : Program} {id : Nat} {Q : Exit → Act → World → Prop} {a : Act} {w : World} {l : List Oper} (C : World → Prop) (hm : P.follows .mixedOrders = true) (hB : Region.lexB .any l.toArray = true) (h0 : C w.drew)
    (h : Nonempty (Cls C) → wpQuiet P l.toArray (fun w' => ∃ x : Cls C, w' = x.wd) (fun a' => ∀ w', (∃ x : Cls C, w' = x.wd) → Q .normal a' w') l a) : (Code.region id l.toArray true).wp P Q a w :=
  wp_region_quiet (C := fun w' => ∃ x : Cls C, w' = x.wd) hm hB ⟨Cls.mk h0, rfl⟩ (by simpa using h ⟨Cls.mk h0⟩)
theorem wp_region_cls_plain {P : Program} {id : Nat} {Q : Exit → Act → World → Prop} {a : Act} {w : World} {l : List Oper} (C : World → Prop) (h0 : C w)
    (h : Nonempty (Cls C) → wpQuiet P l.toArray (fun w' => ∃ x : Cls C, w' = x.wd) (fun a' => ∀ w', (∃ x : Cls C, w' = x.wd) → Q .normal a' w') l a) : (Code.region id l.toArray false).wp P Q a w :=
  wp_region_lit (wpList_of_quiet (C := fun w' => ∃ x : Cls C, w' = x.wd) (fun _ w' hw h => h w' hw) l a w ⟨Cls.mk h0, rfl⟩ (h ⟨Cls.mk h0⟩))
/-- A callee's contract, met in a world of the class. -/
theorem cls_of {P : Program} {f : FuncId} {args : Array Value} {C : World → Prop} {v : Value} (x : Cls C) (h : Calls P f args x.wd fun e w' => e = .returned v ∧ C w') :
    Calls P f args x.wd fun e w'' => e = .returned v ∧ ∃ y : Cls C, w'' = y.wd := h.mono fun _ w' ⟨he, hb⟩ => ⟨he, Cls.mk hb, rfl⟩
end Go.Proofs.YtfglkpcboodllaaGreatDoor
