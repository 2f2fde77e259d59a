/-
  LeadKeeps: whatever the members, the events: true; the input stays.
-/
import Derived.Test.YtnhlbbomjdgjbaaLeadAwake
import Derived.Test.YtnhlbbomjdgjbaaLeadKeepsMath
import Derived.Deep.DeepCutAuto
import Derived.Deep.CutBlock
import Derived.Deep.LoopGhost
namespace Go.Proofs.Ytnhlbbomjdgjbaa
open Go.RowKit
set_option linter.unusedVariables false

structure Ev where
  what : Int
  frm : Int
  index : Int
  piece : Int
  yes : Bool
  mv : Value
  ms : List Int
def evRow (x : Ev) : List Value := [.int .i64 x.what, .int .i64 x.frm, .int .i64 x.index, .int .i64 x.piece, .bool x.yes, x.mv]

set_option maxRecDepth 100000 in
set_option maxHeartbeats 4000000 in
theorem keeps_go (ms : List Int) (self last : Int) (l : List Ev) (vm ve : Value) (w : World) (hms : Sl 1 i64Row w.heap.size w vm ms) (hl : Sl 6 evRow w.heap.size w ve l) (hev : ∀ x ∈ l, Sl 1 i64Row w.heap.size w x.mv x.ms)
    (h1 : ¬ 100 < l.length) (h2 : memRight ms = true) (h3 : 0 ≤ last ∧ last ≤ 1099511627776) :
    Calls Try.prog 3 #[vm, .int .i64 self, .int .i64 last, ve] w fun e w' => e = .returned (.bool true) ∧ Below w.heap.size w w' := by
  obtain ⟨A, cap, rfl, hlc, hcm, -, hA⟩ := hl
  clear hcm
  have hml := memRight_len h2
  go_enter Try.func3, Try.ntmps3
  go_wp2_with (first | (go_at_call 5; refine (awake _).mono ?_; rintro e w1 ⟨rfl, hb1⟩) | (go_at_call 6; refine (entryRight ms vm _ (hms.later hb1)).mono ?_; rintro e w' ⟨rfl, rfl⟩))
  have hB2 := Lib.hid hb1
  have hms2 := hms.later hb1
  have hmr := Lib.hid h2
  refine (begin_ ms vm self last _ hms2 (by omega) (by omega) (by omega)).mono ?_
  rintro e w2 ⟨v0, rfl, ho, hb2⟩
  have hS := ho.sl bkRow_length
  have hB := below_call hb1 hb2
  clear ho hb1 hb2 hms2 hB2 h2
  go_wp2_with fail
  go_loopw [9, 10, 11, 12, 13, 14, 15, 16] (fun vb i _ _ _ _ _ _ wr => ∃ (k : Nat) (bs : List Bk), k ≤ l.length ∧ i = .int .i64 k ∧ Sl 4 bkRow wr.heap.size wr vb bs ∧ bksRight bs = true ∧ Below w.heap.size w wr) (fun _ i _ _ _ _ _ _ _ => l.length - (intOf i).toNat)
  case atStart => exact ⟨0, _, by omega, rfl, hS, begin_right h3.1 h3.2 hmr.out, hB⟩
  case round =>
    obtain ⟨k, bs, hk, rfl, hbs, hr, hB⟩ := hrel
    have hlen := bksRight_len hr
    have hbm := Lib.hid (bksFrom_mem bs 0 hr)
    have hr := Lib.hid hr
    by_cases hlt : k < l.length
    · obtain ⟨b, off, rfl, hb, hcell⟩ := hA (by intro h; subst h; simp at hlt)
      obtain ⟨x, hx⟩ : ∃ x, l[k]? = some x := ⟨_, List.getElem?_eq_getElem hlt⟩
      have hcx := hcell k x hx
      have c0 := (hB.cell (p := ⟨b, off + k * 6, none⟩) hb).trans (hcx 0 _ rfl)
      have c1 := (hB.cell (p := ⟨b, off + k * 6 + 1, none⟩) hb).trans (hcx 1 _ rfl)
      have c2 := (hB.cell (p := ⟨b, off + k * 6 + 2, none⟩) hb).trans (hcx 2 _ rfl)
      have c3 := (hB.cell (p := ⟨b, off + k * 6 + 3, none⟩) hb).trans (hcx 3 _ rfl)
      have c4 := (hB.cell (p := ⟨b, off + k * 6 + 4, none⟩) hb).trans (hcx 4 _ rfl)
      have c5 := (hB.cell (p := ⟨b, off + k * 6 + 5, none⟩) hb).trans (hcx 5 _ rfl)
      have hmv := hev x (List.mem_of_getElem? hx)
      obtain ⟨Am, cm, hmvv, -⟩ := id hmv
      rw [hmvv] at c5 hmv
      clear hcell hcx hx hmvv
      obtain ⟨what, frm, index, piece, yes, mv, xs⟩ := x
      simp only at c0 c1 c2 c3 c4 c5 hmv
      by_cases hneg : index < 0
      · go_wp2
        go_roundw
        case rel => exact ⟨k + 1, bs, by omega, by go_num, hbs.alloc _, hr.out, hB.trans ((Below.refl _ _).alloc hB.size _)⟩
        case measure => simp [intOf]; omega
      · obtain ⟨t, ht, ht1, ht2⟩ : ∃ t : Int, what.tmod 4 = t ∧ -3 ≤ t ∧ t ≤ 3 := ⟨_, rfl, by have := Int.lt_tmod_of_pos what (b := 4) (by omega); omega, by have := Int.tmod_lt_of_pos what (b := 4) (by omega); omega⟩
        have HT := Lib.hid ht
        go_upto_block 2 with fail
        go_cut [12, 57] (fun nx _ wx => ∃ nb : List Bk, Sl 4 bkRow wx.heap.size wx nx nb ∧ StepOk bs what frm index yes nb ∧ Below (wr.heap.size + 1) (wr.alloc (.cells #[.int .i64 what, .int .i64 frm, .int .i64 index, .int .i64 piece, .bool yes, .slice Am xs.length cm] 29)) wx)
        case first => as_aux_lemma =>
          have hb2 := hbs.alloc (.cells #[.int .i64 what, .int .i64 frm, .int .i64 index, .int .i64 piece, .bool yes, .slice Am xs.length cm] 29)
          have hm2 := (hmv.below (below_call hB (below_new wr (.cells #[.int .i64 what, .int .i64 frm, .int .i64 index, .int .i64 piece, .bool yes, .slice Am xs.length cm] 29)))).more (B' := (wr.alloc (.cells #[.int .i64 what, .int .i64 frm, .int .i64 index, .int .i64 piece, .bool yes, .slice Am xs.length cm] 29)).heap.size) (by have := hB.size; simp; omega)
          by_cases t2 : (t + 4) % 4 = 2
          · have q2 : ((t + 4) % 4 == 2) = true := by simpa using t2
            have hw0 : what.tmod 4 ≠ 0 := by rw [HT.out]; omega
            have HW := Lib.hid hw0
            clear t2 hw0
            go_wp2_with (go_at_call 8; refine (got bs u9 frm index piece yes _ hb2 (by omega) (fun x hx => by have := hbm.out x hx; omega)).mono ?_; rintro e w3 ⟨v3, rfl, s3, b3⟩)
            go_meet
            exact ⟨_, s3, got_ok hr.out (by omega) HW.out, by simpa using b3⟩
          · by_cases t3 : (t + 4) % 4 = 3
            · have q2 : ((t + 4) % 4 == 2) = false := by simpa using t2
              have q3 : ((t + 4) % 4 == 3) = true := by simpa using t3
              have hw0 : what.tmod 4 ≠ 0 := by rw [HT.out]; omega
              have HW := Lib.hid hw0
              clear t2 t3 hw0
              by_cases hxr : memRight xs = true
              · have hxl := memRight_len hxr
                have HXR := Lib.hid hxr
                go_wp2_with (first | (go_at_call 6; refine (entryRight xs _ _ hm2).mono ?_; rintro e w' ⟨rfl, rfl⟩) | (go_at_call 9; refine (keep bs xs u9 _ self last _ hb2 hm2 (by omega) (by omega) (by omega)).mono ?_; rintro e w3 ⟨v3, rfl, s3, b3⟩))
                go_meet
                exact ⟨_, s3.sl bkRow_length, keep_ok hr.out h3.1 h3.2 HXR.out HW.out, by simpa using b3⟩
              · have hxr : memRight xs = false := by simpa using hxr
                go_wp2_with (go_at_call 6; refine (entryRight xs _ _ hm2).mono ?_; rintro e w' ⟨rfl, rfl⟩)
                go_meet
                exact ⟨_, hb2, same_ok hr.out HW.out, Below.refl _ _⟩
            · have q2 : ((t + 4) % 4 == 2) = false := by simpa using t2
              have q3 : ((t + 4) % 4 == 3) = false := by simpa using t3
              clear t2 t3
              go_wp2_with (go_at_call 10; refine (ack bs u9 frm index yes _ hb2 (by omega) (fun x hx => by have := hbm.out x hx; omega) (by omega)).mono ?_; rintro e w3 ⟨v3, rfl, s3, b3⟩)
              go_meet
              exact ⟨_, s3, ack_ok hr.out (by omega), by simpa using b3⟩
        case rest =>
          obtain ⟨nb, hnb, hok, hbx⟩ := hcut
          obtain ⟨An, cn, hnx, hnc, -, -, hnA⟩ := id hnb
          subst hnx
          have hnr := hok.1
          have hnm := bksFrom_mem nb 0 hnr
          have hnl := bksRight_len hnr
          have HOK := Lib.hid hok.2
          have HNR := Lib.hid hnr
          have HNM := Lib.hid hnm
          have hbs2 := ((hbs.alloc (.cells #[.int .i64 what, .int .i64 frm, .int .i64 index, .int .i64 piece, .bool yes, .slice Am xs.length cm] 29)).below (by simpa using hbx)).more hbx.size
          have hxb := (Box.new wr #[.int .i64 what, .int .i64 frm, .int .i64 index, .int .i64 piece, .bool yes, .slice Am xs.length cm] 29).below hbx (by omega)
          have hBx := below_call (below_call hB (below_new wr (.cells #[.int .i64 what, .int .i64 frm, .int .i64 index, .int .i64 piece, .bool yes, .slice Am xs.length cm] 29))) (by simpa using hbx)
          clear hok hnr hnm hbs hbx hmv
          go_wp2_with (go_at_call 11; refine (right nb _ _ hnb (fun x hx => by have := HNM.out x hx; omega)).mono ?_; rintro e w3 ⟨rfl, b3⟩; rw [HNR.out])
          have hbs3 := hbs2.later b3
          have hxb3 := hxb.later b3
          have hB3 := below_call hBx b3
          have hnb3 := hnb.later b3
          obtain ⟨wo, hwo⟩ : ∃ wo : World, wo = wr := ⟨_, rfl⟩
          subst hwo
          clear hbs2 hxb hBx hnb b3 hB c0 c1 c2 c3 c4 c5 hS
          go_loopw [13, 14, 15, 16] (fun j _ _ _ wr2 => ∃ k2 : Nat, k2 ≤ nb.length ∧ j = .int .i64 k2 ∧ Below w3.heap.size w3 wr2) (fun j _ _ _ _ => nb.length - (intOf j).toNat)
          case atStart => exact ⟨0, by omega, rfl, Below.refl _ _⟩
          case round =>
            obtain ⟨k2, hk2, rfl, hB4⟩ := hrel
            have hbs4 := hbs3.later hB4
            have hxb4 := hxb3.later hB4
            have hB5 := below_call hB3 hB4
            by_cases hlt2 : k2 < nb.length
            · obtain ⟨bn, on, rfl, hbn, hcn⟩ := hnA (by intro h; subst h; simp at hlt2)
              obtain ⟨y, hy⟩ : ∃ x, nb[k2]? = some x := ⟨_, List.getElem?_eq_getElem hlt2⟩
              obtain ⟨b', off', cap', hv', -, -, hbn', hcy⟩ := bk_at (hnb3.later hB4) (by intro h; subst h; simp at hlt2)
              cases hv'
              obtain ⟨d0, d1, d2, d3⟩ := hcy k2 y hy
              have HO := Lib.hid (HOK.out y (List.mem_of_getElem? hy))
              clear hcn hcy hy HOK
              obtain ⟨ywho, ynext, ymat, ypiece⟩ := y
              simp only at d0 d1 d2 d3 HO
              rcases hf : findBk bs ywho with _ | ⟨zwho, znext, zmat, zpiece⟩
              · as_aux_lemma =>
                  go_wp2_with (go_at_call 12; refine (find_none ywho bs _ _ hbs4 hf).mono ?_; rintro e w5 ⟨rfl, b5⟩; have e0 := (b5.cell (p := ⟨bn, on + k2 * 4, none⟩) hbn').trans d0; have e1 := (b5.cell (p := ⟨bn, on + k2 * 4 + 1, none⟩) hbn').trans d1; have e2 := (b5.cell (p := ⟨bn, on + k2 * 4 + 2, none⟩) hbn').trans d2; have e3 := (b5.cell (p := ⟨bn, on + k2 * 4 + 3, none⟩) hbn').trans d3; have z5 : bn < w5.heap.size := by have := b5.size; omega)
                  go_roundw
                  case rel => exact ⟨k2 + 1, by omega, by go_num, below_call hB4 (b5.trans (((Below.refl _ _).alloc b5.size _).trans ((Below.refl _ _).alloc (by have := b5.size; simp; omega) _)))⟩
                  case measure => simp [intOf]; omega
              · have hzw := (findBk_who hf).1
                simp only at hzw
                subst hzw
                obtain ⟨o1, o2, o3, o4⟩ := HO.out _ hf
                simp only [Bk.mk.injEq, true_and] at o1 o2 o3 o4
                have HF := Lib.hid hf
                have HO4 := Lib.hid o4
                clear hf o4 HO
                obtain ⟨-, -, -, z1, z2, -, z4, -⟩ := hbm.out _ (findBk_who HF.out).2
                simp only at z1 z2 z4
                by_cases hw : zwho = frm
                · subst hw
                  clear o2
                  by_cases hnx : ynext < znext
                  · obtain ⟨p1, p2⟩ := o3 hnx
                    subst p1
                    clear o3
                    by_cases hiz : index < zmat
                    · have P2 : (ynext != zmat + 1) = false := by rw [show max index zmat = zmat by omega] at p2; simpa using p2
                      clear p2
                      as_aux_lemma =>
                        go_wp2_with (go_at_call 12; refine (find_some zwho bs ⟨zwho, znext, zmat, zpiece⟩ _ _ hbs4 HF.out).mono ?_; rintro e w5 ⟨rfl, b5⟩; have e0 := (b5.cell (p := ⟨bn, on + k2 * 4, none⟩) hbn').trans d0; have e1 := (b5.cell (p := ⟨bn, on + k2 * 4 + 1, none⟩) hbn').trans d1; have e2 := (b5.cell (p := ⟨bn, on + k2 * 4 + 2, none⟩) hbn').trans d2; have e3 := (b5.cell (p := ⟨bn, on + k2 * 4 + 3, none⟩) hbn').trans d3; have z5 : bn < w5.heap.size := (by have := b5.size; omega); have hx5 := (hxb4.later b5).facts; obtain ⟨kx, fx, zx⟩ := hx5; have x1 := kx 1; have x2 := kx 2; have x0 := kx 0; have x4 := kx 4; clear kx)
                        go_roundw
                        case rel => exact ⟨k2 + 1, by omega, by go_num, below_call hB4 (b5.trans (((Below.refl _ _).alloc b5.size _).trans ((Below.refl _ _).alloc (by have := b5.size; simp; omega) _)))⟩
                        case measure => simp [intOf]; omega
                    · have hib : index ≤ 1099511627777 := by omega
                      have P2 : (ynext != index + 1) = false := by rw [show max index zmat = index by omega] at p2; simpa using p2
                      clear p2
                      as_aux_lemma =>
                        go_wp2_with (go_at_call 12; refine (find_some zwho bs ⟨zwho, znext, zmat, zpiece⟩ _ _ hbs4 HF.out).mono ?_; rintro e w5 ⟨rfl, b5⟩; have e0 := (b5.cell (p := ⟨bn, on + k2 * 4, none⟩) hbn').trans d0; have e1 := (b5.cell (p := ⟨bn, on + k2 * 4 + 1, none⟩) hbn').trans d1; have e2 := (b5.cell (p := ⟨bn, on + k2 * 4 + 2, none⟩) hbn').trans d2; have e3 := (b5.cell (p := ⟨bn, on + k2 * 4 + 3, none⟩) hbn').trans d3; have z5 : bn < w5.heap.size := (by have := b5.size; omega); have hx5 := (hxb4.later b5).facts; obtain ⟨kx, fx, zx⟩ := hx5; have x1 := kx 1; have x2 := kx 2; have x0 := kx 0; have x4 := kx 4; clear kx)
                        go_roundw
                        case rel => exact ⟨k2 + 1, by omega, by go_num, below_call hB4 (b5.trans (((Below.refl _ _).alloc b5.size _).trans ((Below.refl _ _).alloc (by have := b5.size; simp; omega) _)))⟩
                        case measure => simp [intOf]; omega
                  · clear o3
                    cases yes with
                    | false =>
                      as_aux_lemma =>
                        go_wp2_with (go_at_call 12; refine (find_some zwho bs ⟨zwho, znext, zmat, zpiece⟩ _ _ hbs4 HF.out).mono ?_; rintro e w5 ⟨rfl, b5⟩; have e0 := (b5.cell (p := ⟨bn, on + k2 * 4, none⟩) hbn').trans d0; have e1 := (b5.cell (p := ⟨bn, on + k2 * 4 + 1, none⟩) hbn').trans d1; have e2 := (b5.cell (p := ⟨bn, on + k2 * 4 + 2, none⟩) hbn').trans d2; have e3 := (b5.cell (p := ⟨bn, on + k2 * 4 + 3, none⟩) hbn').trans d3; have z5 : bn < w5.heap.size := (by have := b5.size; omega); have hx5 := (hxb4.later b5).facts; obtain ⟨kx, fx, zx⟩ := hx5; have x1 := kx 1; have x2 := kx 2; have x0 := kx 0; have x4 := kx 4; clear kx)
                        go_roundw
                        case rel => exact ⟨k2 + 1, by omega, by go_num, below_call hB4 (b5.trans (((Below.refl _ _).alloc b5.size _).trans ((Below.refl _ _).alloc (by have := b5.size; simp; omega) _)))⟩
                        case measure => simp [intOf]; omega
                    | true =>
                      by_cases hz : t = 0
                      · have tz : (t == 0) = true := by simpa using hz
                        have HZ := Lib.hid hz
                        clear hz
                        by_cases him : index ≤ 1099511627776
                        · have hq := HO4.out rfl (by rw [HT.out, HZ.out]) rfl him
                          as_aux_lemma =>
                            go_wp2_with (go_at_call 12; refine (find_some zwho bs ⟨zwho, znext, zmat, zpiece⟩ _ _ hbs4 HF.out).mono ?_; rintro e w5 ⟨rfl, b5⟩; have e0 := (b5.cell (p := ⟨bn, on + k2 * 4, none⟩) hbn').trans d0; have e1 := (b5.cell (p := ⟨bn, on + k2 * 4 + 1, none⟩) hbn').trans d1; have e2 := (b5.cell (p := ⟨bn, on + k2 * 4 + 2, none⟩) hbn').trans d2; have e3 := (b5.cell (p := ⟨bn, on + k2 * 4 + 3, none⟩) hbn').trans d3; have z5 : bn < w5.heap.size := (by have := b5.size; omega); have hx5 := (hxb4.later b5).facts; obtain ⟨kx, fx, zx⟩ := hx5; have x1 := kx 1; have x2 := kx 2; have x0 := kx 0; have x4 := kx 4; clear kx)
                            go_roundw
                            case rel => exact ⟨k2 + 1, by omega, by go_num, below_call hB4 (b5.trans (((Below.refl _ _).alloc b5.size _).trans ((Below.refl _ _).alloc (by have := b5.size; simp; omega) _)))⟩
                            case measure => simp [intOf]; omega
                        · clear HO4
                          as_aux_lemma =>
                            go_wp2_with (go_at_call 12; refine (find_some zwho bs ⟨zwho, znext, zmat, zpiece⟩ _ _ hbs4 HF.out).mono ?_; rintro e w5 ⟨rfl, b5⟩; have e0 := (b5.cell (p := ⟨bn, on + k2 * 4, none⟩) hbn').trans d0; have e1 := (b5.cell (p := ⟨bn, on + k2 * 4 + 1, none⟩) hbn').trans d1; have e2 := (b5.cell (p := ⟨bn, on + k2 * 4 + 2, none⟩) hbn').trans d2; have e3 := (b5.cell (p := ⟨bn, on + k2 * 4 + 3, none⟩) hbn').trans d3; have z5 : bn < w5.heap.size := (by have := b5.size; omega); have hx5 := (hxb4.later b5).facts; obtain ⟨kx, fx, zx⟩ := hx5; have x1 := kx 1; have x2 := kx 2; have x0 := kx 0; have x4 := kx 4; clear kx)
                            go_roundw
                            case rel => exact ⟨k2 + 1, by omega, by go_num, below_call hB4 (b5.trans (((Below.refl _ _).alloc b5.size _).trans ((Below.refl _ _).alloc (by have := b5.size; simp; omega) _)))⟩
                            case measure => simp [intOf]; omega
                      · have tz : (t == 0) = false := by simpa using hz
                        clear hz HO4
                        as_aux_lemma =>
                          go_wp2_with (go_at_call 12; refine (find_some zwho bs ⟨zwho, znext, zmat, zpiece⟩ _ _ hbs4 HF.out).mono ?_; rintro e w5 ⟨rfl, b5⟩; have e0 := (b5.cell (p := ⟨bn, on + k2 * 4, none⟩) hbn').trans d0; have e1 := (b5.cell (p := ⟨bn, on + k2 * 4 + 1, none⟩) hbn').trans d1; have e2 := (b5.cell (p := ⟨bn, on + k2 * 4 + 2, none⟩) hbn').trans d2; have e3 := (b5.cell (p := ⟨bn, on + k2 * 4 + 3, none⟩) hbn').trans d3; have z5 : bn < w5.heap.size := (by have := b5.size; omega); have hx5 := (hxb4.later b5).facts; obtain ⟨kx, fx, zx⟩ := hx5; have x1 := kx 1; have x2 := kx 2; have x0 := kx 0; have x4 := kx 4; clear kx)
                          go_roundw
                          case rel => exact ⟨k2 + 1, by omega, by go_num, below_call hB4 (b5.trans (((Below.refl _ _).alloc b5.size _).trans ((Below.refl _ _).alloc (by have := b5.size; simp; omega) _)))⟩
                          case measure => simp [intOf]; omega
                · have hwf : (zwho == frm) = false := by simpa using hw
                  have hwg : (zwho != frm) = true := by simpa using hw
                  obtain ⟨q1, q2, q3⟩ := o2.resolve_left hw
                  have r1 := q1.symm
                  have r2 := q2.symm
                  have r3 := q3.symm
                  subst r1 r2 r3
                  clear q1 q2 q3
                  clear o2 o3 hw
                  as_aux_lemma =>
                    go_wp2_with (go_at_call 12; refine (find_some zwho bs ⟨zwho, znext, zmat, zpiece⟩ _ _ hbs4 HF.out).mono ?_; rintro e w5 ⟨rfl, b5⟩; have e0 := (b5.cell (p := ⟨bn, on + k2 * 4, none⟩) hbn').trans d0; have e1 := (b5.cell (p := ⟨bn, on + k2 * 4 + 1, none⟩) hbn').trans d1; have e2 := (b5.cell (p := ⟨bn, on + k2 * 4 + 2, none⟩) hbn').trans d2; have e3 := (b5.cell (p := ⟨bn, on + k2 * 4 + 3, none⟩) hbn').trans d3; have z5 : bn < w5.heap.size := (by have := b5.size; omega); have hx5 := (hxb4.later b5).facts; obtain ⟨kx, fx, zx⟩ := hx5; have x1 := kx 1; have x2 := kx 2; have x0 := kx 0; have x4 := kx 4; clear kx)
                    all_goals
                      go_roundw
                      case rel => exact ⟨k2 + 1, by omega, by go_num, below_call hB4 (b5.trans (((Below.refl _ _).alloc b5.size _).trans ((Below.refl _ _).alloc (by have := b5.size; simp; omega) _)))⟩
                      case measure => simp [intOf]; omega
            · have : k2 = nb.length := by omega
              go_wp2
              go_roundw
              case rel => exact ⟨k + 1, nb, by omega, by go_num, hnb3.later hB4, HNR.out, hB5⟩
              case measure => simp [intOf]; omega
    · have : k = l.length := by omega
      go_wp2
      go_ret
      exact ⟨rfl, hB⟩

set_option maxRecDepth 100000 in
set_option maxHeartbeats 1000000 in
theorem keeps_walk (ms : List Int) (self last : Int) (l : List Ev) (vm ve : Value) (w : World) (hms : Sl 1 i64Row w.heap.size w vm ms) (hl : Sl 6 evRow w.heap.size w ve l) (hev : ∀ x ∈ l, Sl 1 i64Row w.heap.size w x.mv x.ms) :
    Calls Try.prog 3 #[vm, .int .i64 self, .int .i64 last, ve] w fun e w' => e = .returned (.bool true) ∧ Below w.heap.size w w' := by
  by_cases h1 : 100 < l.length
  · obtain ⟨A, cap, rfl, hlc, hcm, -, -⟩ := hl
    clear hev hms hcm
    go_enter Try.func3, Try.ntmps3
    go_wp2_with (go_at_call 5; refine (awake _).mono ?_; rintro e w1 ⟨rfl, hb1⟩)
    go_ret
    exact ⟨rfl, hb1⟩
  by_cases h2 : memRight ms = true
  · by_cases h3 : 0 ≤ last ∧ last ≤ 1099511627776
    · exact keeps_go ms self last l vm ve w hms hl hev h1 h2 h3
    · obtain ⟨A, cap, rfl, hlc, hcm, -, -⟩ := hl
      clear hev hcm
      by_cases h4 : last < 0
      · go_enter Try.func3, Try.ntmps3
        go_wp2_with (first | (go_at_call 5; refine (awake _).mono ?_; rintro e w1 ⟨rfl, hb1⟩) | (go_at_call 6; refine (entryRight ms vm _ (hms.later hb1)).mono ?_; rintro e w' ⟨rfl, rfl⟩))
        go_ret
        exact ⟨rfl, hb1⟩
      · have h5 : 1099511627776 < last := by omega
        go_enter Try.func3, Try.ntmps3
        go_wp2_with (first | (go_at_call 5; refine (awake _).mono ?_; rintro e w1 ⟨rfl, hb1⟩) | (go_at_call 6; refine (entryRight ms vm _ (hms.later hb1)).mono ?_; rintro e w' ⟨rfl, rfl⟩))
        go_ret
        exact ⟨rfl, hb1⟩
  · have h2 : memRight ms = false := by simpa using h2
    obtain ⟨A, cap, rfl, hlc, hcm, -, -⟩ := hl
    clear hev hcm
    go_enter Try.func3, Try.ntmps3
    go_wp2_with (first | (go_at_call 5; refine (awake _).mono ?_; rintro e w1 ⟨rfl, hb1⟩) | (go_at_call 6; refine (entryRight ms vm _ (hms.later hb1)).mono ?_; rintro e w' ⟨rfl, rfl⟩))
    go_ret
    exact ⟨rfl, hb1⟩

end Go.Proofs.Ytnhlbbomjdgjbaa
