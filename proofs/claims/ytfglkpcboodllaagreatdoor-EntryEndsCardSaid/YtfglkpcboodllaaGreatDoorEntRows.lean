/-
  limpetlaw17's EntryRows: true.
-/
import Derived.Test.YtfglkpcboodllaaGreatDoorEntJoins
import Derived.Test.YtfglkpcboodllaaGreatDoorEntRef2
import Derived.Test.YtfglkpcboodllaaGreatDoorKitEnts2
set_option linter.unusedVariables false
set_option linter.unusedSimpArgs false
namespace Go.Proofs.YtfglkpcboodllaaGreatDoor
open Go.RowKit

set_option maxRecDepth 100000 in
set_option maxHeartbeats 1000000 in
theorem rows_big (p q : Idt) (l : List Ent) (v : Value) (w : World) (hl : Sl 4 entRow w.heap.size w v l) (hin : ∀ x ∈ l, EntIn w.heap.size w x ∧ x.bd.length ≤ 140737488351232) (hG : errTypeIs w) (hbig : 4000 < sizeE l) :
    Calls Tryz.prog 9 #[.agg #[.int .i64 p.idx, .int .i64 p.trm, .int .i64 p.knd], .agg #[.int .i64 q.idx, .int .i64 q.trm, .int .i64 q.knd], v] w fun e w' => e = .returned (.bool true) ∧ Below w.heap.size w w' := by
  have HG := Lib.hid hG
  have HL := Lib.hid hl
  have HIN := Lib.hid hin
  obtain ⟨A, cp, rfl, hlc, hcm, hnn, hnl⟩ := id hl
  clear hG hl hin hnn hnl
  have BW : Below w.heap.size w ((w.alloc (.cells #[.int .i64 p.idx, .int .i64 p.trm, .int .i64 p.knd] 25)).alloc (.cells #[.int .i64 q.idx, .int .i64 q.trm, .int .i64 q.knd] 25)) := below_call (below_new _ _) (below_new _ _)
  have HB0 := Lib.hid BW
  have HXp := Lib.hid ((Box.new w #[.int .i64 p.idx, .int .i64 p.trm, .int .i64 p.knd] 25).alloc (.cells #[.int .i64 q.idx, .int .i64 q.trm, .int .i64 q.knd] 25))
  have HXq := Lib.hid (Box.new (w.alloc (.cells #[.int .i64 p.idx, .int .i64 p.trm, .int .i64 p.knd] 25)) #[.int .i64 q.idx, .int .i64 q.trm, .int .i64 q.knd] 25)
  clear BW
  go_enter Tryz.func9, Tryz.ntmps9
  go_wp2_with (first
    | (go_at_call 50; refine (cnt4000 l _ _ (HL.out.later HB0.out) (fun x hx => (HIN.out x hx).2)).mono ?_; rintro e w2 ⟨n, rfl, hn, rfl⟩; have hn' : (4000 : Int) < (n : Int) := (by omega); have hn2 : 4000 < n := (by omega); clear hn)
    | (go_at_call 11; refine (awake _ (errType_later HG.out HB0.out)).mono ?_; rintro e w3 ⟨rfl, hb3⟩))
  go_ret
  exact ⟨rfl, below_call HB0.out hb3⟩

set_option maxRecDepth 100000 in
set_option maxHeartbeats 4000000 in
theorem rows_one (p q : Idt) (l : List Ent) (v : Value) (w : World) (hl : Sl 4 entRow w.heap.size w v l) (hin : ∀ x ∈ l, EntIn w.heap.size w x ∧ x.bd.length ≤ 140737488351232) (hG : errTypeIs w) (hsm : sizeE l ≤ 4000) :
    Calls Tryz.prog 9 #[.agg #[.int .i64 p.idx, .int .i64 p.trm, .int .i64 p.knd], .agg #[.int .i64 q.idx, .int .i64 q.trm, .int .i64 q.knd], v] w fun e w' => e = .returned (.bool true) ∧ Below w.heap.size w w' := by
  have hll : l.length ≤ 4000 := Nat.le_trans (sizeE_len l) hsm
  have HSM := Lib.hid (show ∀ x ∈ l, x.bd.length ≤ 1000000 from fun x hx => by have := sizeE_mem hx; omega)
  have HG := Lib.hid hG
  have HL := Lib.hid hl
  have HIN := Lib.hid hin
  obtain ⟨A, cp, rfl, hlc, hcm, hnn, hnl⟩ := id hl
  clear hG hl hin hnn hnl
  have BW : Below w.heap.size w ((w.alloc (.cells #[.int .i64 p.idx, .int .i64 p.trm, .int .i64 p.knd] 25)).alloc (.cells #[.int .i64 q.idx, .int .i64 q.trm, .int .i64 q.knd] 25)) := below_call (below_new _ _) (below_new _ _)
  have HB0 := Lib.hid BW
  have HXp := Lib.hid ((Box.new w #[.int .i64 p.idx, .int .i64 p.trm, .int .i64 p.knd] 25).alloc (.cells #[.int .i64 q.idx, .int .i64 q.trm, .int .i64 q.knd] 25))
  have HXq := Lib.hid (Box.new (w.alloc (.cells #[.int .i64 p.idx, .int .i64 p.trm, .int .i64 p.knd] 25)) #[.int .i64 q.idx, .int .i64 q.trm, .int .i64 q.knd] 25)
  clear BW
  go_enter Tryz.func9, Tryz.ntmps9
  go_wp2_with (first
    | (go_at_call 50; refine (cnt4000 l _ _ (HL.out.later HB0.out) (fun x hx => (HIN.out x hx).2)).mono ?_; rintro e w2 ⟨n, rfl, hn, rfl⟩; have hn' : (n : Int) ≤ 4000 := (by omega); have hn2 : n ≤ 4000 := (by omega); clear hn)
    | (go_at_call 15; refine (lentEntries l _ _ (HL.out.later HB0.out) (fun x hx => ⟨(HIN.out x hx).1.later HB0.out, HSM.out x hx⟩) (by omega)).mono ?_; rintro e w3 ⟨g, cm, m, rfl, hg, hm, hlm, hbm, hb3⟩))
  have HB3 := Lib.hid (below_call HB0.out hb3)
  have HXp3 := Lib.hid (HXp.out.later hb3)
  have HXq3 := Lib.hid (HXq.out.later hb3)
  have HLM := Lib.hid hlm
  have HBM := Lib.hid hbm
  have HM := Lib.hid hm
  have HL3 := Lib.hid (HL.out.later HB3.out)
  have HIN3 := Lib.hid (show ∀ x ∈ l, EntIn w3.heap.size w3 x from fun x hx => (HIN.out x hx).1.later HB3.out)
  have HG3 := Lib.hid (errType_later HG.out HB3.out)
  have HBY : Hid (∀ x ∈ m, ∀ y ∈ x.bd, 0 ≤ y ∧ y ≤ 255) := by
    intro x hx
    obtain ⟨i, hi⟩ := List.getElem?_of_mem hx
    obtain ⟨A2, c2, h2⟩ := keys_at hm.symm hi
    have h3 := (HIN3.out _ (List.mem_of_getElem? h2)).2
    exact h3
  have HMN := Lib.hid (show ∀ x ∈ m, EntIn w3.heap.size w3 x from fun x hx => ⟨(HBM.out x hx).sl, HBY.out x hx⟩)
  have hml := keys_length hm
  have HMS := Lib.hid (show Sl 4 entRow w3.heap.size w3 (.slice (some ⟨g, 0, none⟩) l.length cm) m from HLM.out.sl)
  obtain ⟨gp, hgp⟩ : ∃ g, g = w.heap.size := ⟨_, rfl⟩
  obtain ⟨gq, hgq⟩ : ∃ g, g = (w.alloc (.cells #[.int .i64 p.idx, .int .i64 p.trm, .int .i64 p.knd] 25)).heap.size := ⟨_, rfl⟩
  have hgq2 : w.heap.size + 1 = gq := by rw [hgq]; simp
  rw [← hgp] at HXp3
  rw [← hgq] at HXq3
  rw [hgq2, ← hgp]
  clear HXp HXq hgp hgq hgq2 hb3 hlm hbm hm hg
  go_loopw [8] (fun i wr => ∃ j : Nat, j ≤ l.length ∧ i = .int .i64 j ∧ Below w3.heap.size w3 wr) (fun i _ => l.length - (intOf i).toNat)
  case atStart => exact ⟨0, by omega, rfl, Below.refl _ _⟩
  case round =>
    obtain ⟨j, hj, rfl, hB⟩ := hrel
    have HBr := Lib.hid hB
    clear hB
    have i0 : (0 : Int) ≤ (j : Int) := by omega
    by_cases hlt : j < l.length
    · obtain ⟨b, off, q3, e3, hlc3, hcm3, hb3, hcell⟩ := HL3.out.cellAt (by intro h; subst h; simp at hlt)
      simp only [Value.slice.injEq] at e3
      obtain ⟨rfl, -, rfl⟩ := e3
      obtain ⟨x, hx⟩ : ∃ x, l[j]? = some x := ⟨_, List.getElem?_eq_getElem hlt⟩
      obtain ⟨Ax, cx, hx2⟩ := keys_at HM.out hx
      obtain ⟨b2, off2, q2, e2, -, -, hb2, hcell2⟩ := HMS.out.cellAt (by intro h; subst h; simp at hx2)
      simp only [Value.slice.injEq, Option.some.injEq, Addr.mk.injEq, and_true] at e2
      obtain ⟨⟨rfl, rfl⟩, -, rfl⟩ := e2
      have d0 : decide ((j : Int) < (l.length : Int)) = true := decide_eq_true (by omega)
      have d0' : decide (j < l.length) = true := decide_eq_true hlt
      have i1 : (j : Int) < (l.length : Int) := by omega
      have kx0 : ∀ zw : Ext wr, zw.wd.cell? ⟨b, off + j * 4, none⟩ = some (.int .i64 x.idx) := fun zw => ((below_call HBr.out zw.low).cell (p := ⟨b, off + j * 4 + 0, none⟩) hb3).trans (hcell j x hx 0 _ rfl)
      have kx1 : ∀ zw : Ext wr, zw.wd.cell? ⟨b, off + j * 4 + 1, none⟩ = some (.int .i64 x.trm) := fun zw => ((below_call HBr.out zw.low).cell (p := ⟨b, off + j * 4 + 1, none⟩) hb3).trans (hcell j x hx 1 _ rfl)
      have kx2 : ∀ zw : Ext wr, zw.wd.cell? ⟨b, off + j * 4 + 2, none⟩ = some (.int .i64 x.knd) := fun zw => ((below_call HBr.out zw.low).cell (p := ⟨b, off + j * 4 + 2, none⟩) hb3).trans (hcell j x hx 2 _ rfl)
      have kx3 : ∀ zw : Ext wr, zw.wd.cell? ⟨b, off + j * 4 + 3, none⟩ = some (.slice x.ba x.bd.length x.bc) := fun zw => ((below_call HBr.out zw.low).cell (p := ⟨b, off + j * 4 + 3, none⟩) hb3).trans (hcell j x hx 3 _ rfl)
      have ky0 : ∀ zw : Ext wr, zw.wd.cell? ⟨g, j * 4, none⟩ = some (.int .i64 x.idx) := fun zw => ((below_call HBr.out zw.low).cell (p := ⟨g, j * 4 + 0, none⟩) hb2).trans (by have h := hcell2 j _ hx2 0 _ rfl; rw [Nat.zero_add] at h; exact h)
      have ky1 : ∀ zw : Ext wr, zw.wd.cell? ⟨g, j * 4 + 1, none⟩ = some (.int .i64 x.trm) := fun zw => ((below_call HBr.out zw.low).cell (p := ⟨g, j * 4 + 1, none⟩) hb2).trans (by have h := hcell2 j _ hx2 1 _ rfl; rw [Nat.zero_add] at h; exact h)
      have ky2 : ∀ zw : Ext wr, zw.wd.cell? ⟨g, j * 4 + 2, none⟩ = some (.int .i64 x.knd) := fun zw => ((below_call HBr.out zw.low).cell (p := ⟨g, j * 4 + 2, none⟩) hb2).trans (by have h := hcell2 j _ hx2 2 _ rfl; rw [Nat.zero_add] at h; exact h)
      have ky3 : ∀ zw : Ext wr, zw.wd.cell? ⟨g, j * 4 + 3, none⟩ = some (.slice Ax x.bd.length cx) := fun zw => ((below_call HBr.out zw.low).cell (p := ⟨g, j * 4 + 3, none⟩) hb2).trans (by have h := hcell2 j _ hx2 3 _ rfl; rw [Nat.zero_add] at h; exact h)
      have hkey : keyE ⟨x.idx, x.trm, x.knd, Ax, cx, x.bd⟩ = keyE x := rfl
      have HE := Lib.hid (HIN3.out x (List.mem_of_getElem? hx))
      have HE2 := Lib.hid (HMN.out _ (List.mem_of_getElem? hx2))
      obtain ⟨gd, hgd⟩ : ∃ b, goodE x = b := ⟨_, rfl⟩
      have hgd2 : goodE ⟨x.idx, x.trm, x.knd, Ax, cx, x.bd⟩ = gd := (goodE_key hkey).trans hgd
      have C1 := Lib.hid (show ∀ x5 : Ext wr, Calls Tryz.prog 51 #[.agg #[.int .i64 x.idx, .int .i64 x.trm, .int .i64 x.knd, .slice Ax x.bd.length cx]] x5.wd (fun e w' => e = .returned (.agg #[.int .i64 x.idx, .int .i64 x.trm, .int .i64 x.knd]) ∧ Below x5.wd.heap.size x5.wd w') from fun x5 => entOf ⟨x.idx, x.trm, x.knd, Ax, cx, x.bd⟩ x5.wd)
      have C2 := Lib.hid (show ∀ x5 : Ext wr, Calls Tryz.prog 52 #[.agg #[.int .i64 x.idx, .int .i64 x.trm, .int .i64 x.knd, .slice x.ba x.bd.length x.bc]] x5.wd (fun e w' => e = .returned (.agg #[.int .i64 x.idx, .int .i64 x.trm, .int .i64 x.knd]) ∧ Below x5.wd.heap.size x5.wd w') from fun x5 => refOf x x5.wd)
      have C3 := Lib.hid (show ∀ x5 : Ext wr, Calls Tryz.prog 53 #[.agg #[.int .i64 x.idx, .int .i64 x.trm, .int .i64 x.knd, .slice Ax x.bd.length cx]] x5.wd (fun e w' => e = .returned (.bool gd) ∧ Below x5.wd.heap.size x5.wd w') from fun x5 => by have h := entGood ⟨x.idx, x.trm, x.knd, Ax, cx, x.bd⟩ x5.wd (HE2.out.later (below_call HBr.out x5.low)); rw [hgd2] at h; exact h)
      have C4 := Lib.hid (show ∀ x5 : Ext wr, Calls Tryz.prog 54 #[.agg #[.int .i64 x.idx, .int .i64 x.trm, .int .i64 x.knd, .slice x.ba x.bd.length x.bc]] x5.wd (fun e w' => e = .returned (.bool gd) ∧ Below x5.wd.heap.size x5.wd w') from fun x5 => by have h := refGood x x5.wd (HE.out.later (below_call HBr.out x5.low)); rw [hgd] at h; exact h)
      clear hcell hcell2 hx hx2 hgd hgd2 hkey
      go_upto_region 7 with fail
      refine wp_region_ext (by kernel_rfl) (by kernel_rfl) ?_
      repeat (go_big_quiet_step ((rename_i x5; have h5 := x5.low; first
        | (go_at_call 51; exact ext_of x5 (C1.out x5))
        | (go_at_call 52; exact ext_of x5 (C2.out x5))
        | (go_at_call 53; exact ext_of x5 (C3.out x5))
        | (go_at_call 54; exact ext_of x5 (C4.out x5)))))
      refine wpQuiet_nil ?_
      intro _ hw'
      obtain ⟨x9, hw''⟩ := hw'
      subst hw''
      go_wp2_with fail
      go_roundw
      case rel => exact ⟨j + 1, by omega, by go_num, below_call HBr.out x9.low⟩
      case measure => simp [intOf]; omega
    · have d0 : decide ((j : Int) < (l.length : Int)) = false := decide_eq_false (by omega)
      have d0' : decide (j < l.length) = false := decide_eq_false hlt
      obtain ⟨r, hr⟩ : ∃ r, lastE p l = r := ⟨_, rfl⟩
      obtain ⟨f, hf⟩ : ∃ f, folE p l = f := ⟨_, rfl⟩
      obtain ⟨o, ho⟩ : ∃ o, olderI p q = o := ⟨_, rfl⟩
      have hr2 : lastE p m = r := (lastE_key HM.out p).trans hr
      have hf2 : folE p m = f := (folE_key HM.out p).trans hf
      have HSM2 := Lib.hid (show ∀ x ∈ l, EntIn w3.heap.size w3 x ∧ x.bd.length ≤ 1000000 from fun x hx => ⟨HIN3.out x hx, HSM.out x hx⟩)
      have D1 := Lib.hid (show ∀ x5 : Ext wr, Calls Tryz.prog 55 #[.agg #[.int .i64 p.idx, .int .i64 p.trm, .int .i64 p.knd], .slice (some ⟨g, 0, none⟩) l.length cm] x5.wd (fun e w' => e = .returned (.agg #[.int .i64 r.idx, .int .i64 r.trm, .int .i64 r.knd]) ∧ Below x5.wd.heap.size x5.wd w') from fun x5 => by have h := entLast p m _ x5.wd (HMS.out.later (below_call HBr.out x5.low)); rw [hr2] at h; exact h)
      have D2 := Lib.hid (show ∀ x5 : Ext wr, Calls Tryz.prog 56 #[.agg #[.int .i64 p.idx, .int .i64 p.trm, .int .i64 p.knd], .slice A l.length cp] x5.wd (fun e w' => e = .returned (.agg #[.int .i64 r.idx, .int .i64 r.trm, .int .i64 r.knd]) ∧ Below x5.wd.heap.size x5.wd w') from fun x5 => by have h := refLast p l _ x5.wd (HL3.out.later (below_call HBr.out x5.low)); rw [hr] at h; exact h)
      have D3 := Lib.hid (show ∀ x5 : Ext wr, Calls Tryz.prog 57 #[.agg #[.int .i64 p.idx, .int .i64 p.trm, .int .i64 p.knd], .slice (some ⟨g, 0, none⟩) l.length cm] x5.wd (fun e w' => e = .returned (.int .i64 f) ∧ Below x5.wd.heap.size x5.wd w') from fun x5 => by have h := entFollows p m _ x5.wd (HMS.out.later (below_call HBr.out x5.low)) (fun x hx => (HMN.out x hx).later (below_call HBr.out x5.low)) (errType_later HG3.out (below_call HBr.out x5.low)); rw [hf2] at h; exact h)
      have D4 := Lib.hid (show ∀ x5 : Ext wr, Calls Tryz.prog 58 #[.agg #[.int .i64 p.idx, .int .i64 p.trm, .int .i64 p.knd], .slice A l.length cp] x5.wd (fun e w' => e = .returned (.int .i64 f) ∧ Below x5.wd.heap.size x5.wd w') from fun x5 => by have h := refFollows p l _ x5.wd (HL3.out.later (below_call HBr.out x5.low)) (fun x hx => (HIN3.out x hx).later (below_call HBr.out x5.low)); rw [hf] at h; exact h)
      have D5 := Lib.hid (show ∀ x5 : Ext wr, Calls Tryz.prog 59 #[.agg #[.int .i64 p.idx, .int .i64 p.trm, .int .i64 p.knd], .agg #[.int .i64 q.idx, .int .i64 q.trm, .int .i64 q.knd]] x5.wd (fun e w' => e = .returned (.bool o) ∧ Below x5.wd.heap.size x5.wd w') from fun x5 => by have h := entOlder p q x5.wd; rw [ho] at h; exact h)
      have D6 := Lib.hid (show ∀ x5 : Ext wr, Calls Tryz.prog 60 #[.agg #[.int .i64 p.idx, .int .i64 p.trm, .int .i64 p.knd], .agg #[.int .i64 q.idx, .int .i64 q.trm, .int .i64 q.knd]] x5.wd (fun e w' => e = .returned (.bool o) ∧ Below x5.wd.heap.size x5.wd w') from fun x5 => by have h := refOlder p q x5.wd; rw [ho] at h; exact h)
      have D7 := Lib.hid (show ∀ x5 : Ext wr, Calls Tryz.prog 27 #[.slice (some ⟨g, 0, none⟩) l.length cm, .slice A l.length cp] x5.wd (fun e w' => e = .returned (.bool true) ∧ Below x5.wd.heap.size x5.wd w') from fun x5 => keptEntries l m _ _ x5.wd HM.out (HLM.out.later (below_call HBr.out x5.low)) (fun x hx => (HBM.out x hx).later (below_call HBr.out x5.low)) (HL3.out.later (below_call HBr.out x5.low)) (fun x hx => ⟨(HSM2.out x hx).1.later (below_call HBr.out x5.low), (HSM2.out x hx).2⟩) (by omega))
      have D8 := Lib.hid (show ∀ x5 : Ext wr, Calls Tryz.prog 11 #[] x5.wd (fun e w' => e = .returned (.bool true) ∧ Below x5.wd.heap.size x5.wd w') from fun x5 => awake x5.wd (errType_later HG3.out (below_call HBr.out x5.low)))
      have kp0 : ∀ zw : Ext wr, zw.wd.cell? ⟨gp, 0, none⟩ = some (.int .i64 p.idx) := (HXp3.out.later HBr.out).ext 0
      have kp1 : ∀ zw : Ext wr, zw.wd.cell? ⟨gp, 1, none⟩ = some (.int .i64 p.trm) := (HXp3.out.later HBr.out).ext 1
      have kp2 : ∀ zw : Ext wr, zw.wd.cell? ⟨gp, 2, none⟩ = some (.int .i64 p.knd) := (HXp3.out.later HBr.out).ext 2
      have kq0 : ∀ zw : Ext wr, zw.wd.cell? ⟨gq, 0, none⟩ = some (.int .i64 q.idx) := (HXq3.out.later HBr.out).ext 0
      have kq1 : ∀ zw : Ext wr, zw.wd.cell? ⟨gq, 1, none⟩ = some (.int .i64 q.trm) := (HXq3.out.later HBr.out).ext 1
      have kq2 : ∀ zw : Ext wr, zw.wd.cell? ⟨gq, 2, none⟩ = some (.int .i64 q.knd) := (HXq3.out.later HBr.out).ext 2
      clear hr hf ho hr2 hf2
      go_upto_region 9 with fail
      refine wp_region_ext (by kernel_rfl) (by kernel_rfl) ?_
      repeat (go_big_quiet_step ((rename_i x5; have h5 := x5.low; first
        | (go_at_call 55; exact ext_of x5 (D1.out x5))
        | (go_at_call 56; exact ext_of x5 (D2.out x5))
        | (go_at_call 57; exact ext_of x5 (D3.out x5))
        | (go_at_call 58; exact ext_of x5 (D4.out x5))
        | (go_at_call 59; exact ext_of x5 (D5.out x5))
        | (go_at_call 60; exact ext_of x5 (D6.out x5))
        | (go_at_call 27; exact ext_of x5 (D7.out x5))
        | (go_at_call 11; exact ext_of x5 (D8.out x5)))))
      refine wpQuiet_nil ?_
      intro _ hw'
      obtain ⟨x9, hw''⟩ := hw'
      subst hw''
      go_wp2_with fail
      go_ret
      exact ⟨rfl, below_call (below_call HB3.out HBr.out) x9.low⟩
end Go.Proofs.YtfglkpcboodllaaGreatDoor
