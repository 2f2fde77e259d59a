/-
  limpetlaw17's awake: true.
-/
import Derived.Test.YtfglkpcboodllaaGreatDoorEntAwake
import Derived.Test.YtfglkpcboodllaaGreatDoorAppend
import Derived.Test.YtfglkpcboodllaaGreatDoorExt
import Derived.Deep.RegionHeld3
import Derived.Deep.DeepCutAuto
set_option linter.unusedVariables false
set_option linter.unusedSimpArgs false
namespace Go.Proofs.YtfglkpcboodllaaGreatDoor
open Go.RowKit

theorem sameBytesB (l : List Int) (v v' : Value) (w : World) (h : Sl 1 u8Row w.heap.size w v l) (h' : Sl 1 u8Row w.heap.size w v' l) :
    Calls Tryz.prog 69 #[v, v'] w fun e w' => e = .returned (.bool true) ∧ Below w.heap.size w w' :=
  (sameBytes l v v' w h h').mono fun _ _ ⟨he, n, hn⟩ => ⟨he, by subst hn; exact below_drewN (Below.refl _ _) n⟩
def aw1 : Ent := ⟨4, 2, 1, none, 0, []⟩
def aw2 (g : Nat) : Ent := ⟨5, 2, 3, some ⟨g, 0, none⟩, 2, [1, 3]⟩
theorem aw_fol (g : Nat) : folE ⟨3, 1, 0⟩ [aw1, aw2 g] = 0 := by kernel_rfl
theorem aw_ord (g : Nat) : folE ⟨3, 1, 0⟩ [aw2 g] = 12 := by kernel_rfl
theorem aw_last (g : Nat) : lastE ⟨3, 1, 0⟩ [aw1, aw2 g] = ⟨5, 2, 3⟩ := rfl

set_option maxRecDepth 100000 in
set_option maxHeartbeats 4000000 in
theorem awake (w : World) (hG : errTypeIs w) : Calls Tryz.prog 11 #[] w fun e w' => e = .returned (.bool true) ∧ Below w.heap.size w w' := by
  have HG := Lib.hid hG
  have HS := Lib.hid ((Box.new w #[.int .i64 1, .int .i64 3] 3).sl i64Row_length [1, 3] rfl (by unfold maxLen; simp))
  clear hG
  go_enter Tryz.func11, Tryz.ntmps11
  go_wp2_with fail
  refine (entBytes [1, 3] _ _ HS.out).mono ?_
  rintro e w1 ⟨v1, rfl, ho, hb1⟩
  rw [show memRight [1, 3] = true from rfl] at ho ⊢
  simp only [if_true] at ho ⊢
  obtain ⟨ho, hv⟩ := ho
  obtain ⟨g1, c1, rfl, -, -, -, -⟩ := ho.form' hv
  have H1 := Lib.hid (ho.sl u8Row_length)
  have HB1 := Lib.hid (below_call (below_new _ _) hb1)
  clear ho hv hb1
  go_wp2_with fail
  refine (ofLaw 4 2 1 none 0 0 _).mono ?_
  rintro e w2 ⟨rfl, hb2⟩
  have H1 := Lib.hid (H1.out.later hb2)
  have HB1 := Lib.hid (below_call HB1.out hb2)
  clear hb2
  go_wp2_with fail
  refine (ofLaw 5 2 3 _ 2 2 _).mono ?_
  rintro e w3 ⟨rfl, hb3⟩
  have H1 := Lib.hid ((H1.out.alloc (.cells #[.int .u8 1, .int .u8 3] 5)).later hb3)
  have HB2 := Lib.hid ((Box.new w2 #[.int .u8 1, .int .u8 3] 5).later hb3)
  have HB1 := Lib.hid (below_call HB1.out (below_call (below_new _ _) hb3))
  obtain ⟨g2, hg2⟩ : ∃ g, g = w2.heap.size := ⟨_, rfl⟩
  rw [← hg2] at HB2
  rw [← hg2]
  clear hg2 hb3
  have c8 : (#[.int .i64 4, .int .i64 2, .int .i64 1, .slice none 0 0, .int .i64 5, .int .i64 2, .int .i64 3, .slice (some ⟨g2, 0, none⟩) 2 2] : Array Value) = ([aw1, aw2 g2].flatMap entRow).toArray := rfl
  obtain ⟨W, hW⟩ : ∃ W : World, W = (w3.alloc (.cells #[.int .i64 4, .int .i64 2, .int .i64 1, .slice none 0 0, .int .i64 5, .int .i64 2, .int .i64 3, .slice (some ⟨g2, 0, none⟩) 2 2] 28)).alloc (.cells #[.int .i64 3, .int .i64 1, .int .i64 0] 25) := ⟨_, rfl⟩
  have BW : Below w3.heap.size w3 W := by rw [hW]; exact below_call (below_new _ _) (below_new _ _)
  have HBE := Lib.hid (show Box W w3.heap.size #[.int .i64 4, .int .i64 2, .int .i64 1, .slice none 0 0, .int .i64 5, .int .i64 2, .int .i64 3, .slice (some ⟨g2, 0, none⟩) 2 2] 28 by rw [hW]; exact (Box.new _ _ _).alloc _)
  have HBI := Lib.hid (show Box W (w3.heap.size + 1) #[.int .i64 3, .int .i64 1, .int .i64 0] 25 by
    have := Box.new (w3.alloc (.cells #[.int .i64 4, .int .i64 2, .int .i64 1, .slice none 0 0, .int .i64 5, .int .i64 2, .int .i64 3, .slice (some ⟨g2, 0, none⟩) 2 2] 28)) #[.int .i64 3, .int .i64 1, .int .i64 0] 25
    rw [hW]; simpa using this)
  have HL := Lib.hid (HBE.out.sl entRow_length [aw1, aw2 g2] c8 (by unfold maxLen; simp))
  have HL2 := Lib.hid (show Sl 4 entRow W.heap.size W (.slice (some ⟨w3.heap.size, 4, none⟩) 1 1) [aw2 g2] from ⟨_, 1, rfl, by simp, by unfold maxLen; omega, fun h => by simp at h, fun _ => ⟨w3.heap.size, 4, rfl, HBE.out.lt, fun i x hx j u hu => by
    have hi : i = 0 := by have := (List.getElem?_eq_some_iff.1 hx).1; simpa using this
    subst hi
    simp only [List.getElem?_cons_zero, Option.some.injEq] at hx
    subst hx
    rw [HBE.out.cell, c8, Nat.zero_mul, Nat.add_zero]
    have := flat_at entRow_length [aw1, aw2 g2] 1 (aw2 g2) rfl j u hu
    simpa using this⟩⟩)
  have HE : ∀ x ∈ [aw1, aw2 g2], EntIn W.heap.size W x := by
    intro x hx
    rcases List.mem_cons.1 hx with rfl | hx
    · exact ⟨Sl.nil_ _ _ _ _, fun y hy => by cases hy⟩
    · rw [List.mem_singleton.1 hx]
      refine ⟨((HB2.out.sl u8Row_length [1, 3] rfl (by unfold maxLen; simp)).below BW).more BW.size, fun y hy => ?_⟩
      rcases List.mem_cons.1 hy with rfl | hy
      · omega
      · rw [List.mem_singleton.1 hy]; omega
  have HE := Lib.hid HE
  have H1 := Lib.hid (H1.out.later BW)
  have HBW := Lib.hid (below_call HB1.out BW)
  have HG := Lib.hid (errType_later HG.out HBW.out)
  obtain ⟨ge, hge⟩ : ∃ g, g = w3.heap.size := ⟨_, rfl⟩
  obtain ⟨gi, hgi⟩ : ∃ g, g = w3.heap.size + 1 := ⟨_, rfl⟩
  rw [← hge] at HBE HL HL2
  rw [← hgi] at HBI
  have HF : Hid (∀ w', Below W.heap.size W w' → w'.cell? ⟨gi, 0, none⟩ = some (.int .i64 3) ∧ w'.cell? ⟨gi, 1, none⟩ = some (.int .i64 1) ∧ w'.cell? ⟨gi, 2, none⟩ = some (.int .i64 0) ∧ Below W.heap.size W w') := fun w' q => ⟨cell_later q (HBI.out.cell 0), cell_later q (HBI.out.cell 1), cell_later q (HBI.out.cell 2), q⟩
  clear c8 BW
  go_upto_region 4 with fail
  rw [← hW, ← hgi, ← hge]
  clear hW hge hgi
  go_region_held3 (fun w' => w'.cell? ⟨gi, 0, none⟩ = some (.int .i64 3) ∧ w'.cell? ⟨gi, 1, none⟩ = some (.int .i64 1) ∧ w'.cell? ⟨gi, 2, none⟩ = some (.int .i64 0) ∧ Below W.heap.size W w')
    (first | exact HF.out _ (Below.refl _ _).drew | exact HF.out _ (((Below.refl _ _).alloc (Nat.le_refl _) _).drew) | exact HF.out _ PA | exact HF.out _ PB | exact HF.out _ PC | exact HF.out _ PD)
    (first
      | (go_at_call 69; refine (sameBytesB [1, 3] _ _ ((W.alloc (.cells #[.int .u8 1, .int .u8 3] 5)).drew) ((H1.out.alloc _).keep (fun _ _ _ => rfl)) (((Box.new W #[.int .u8 1, .int .u8 3] 5).sl u8Row_length [1, 3] rfl (by unfold maxLen; simp)).keep (fun _ _ _ => rfl))).mono ?_; rintro e wa ⟨rfl, hba⟩; have PA : Below W.heap.size W wa := Below.trans (((Below.refl _ _).alloc (Nat.le_refl _) _).drew) (hba.mono (by simp)))
      | (go_at_call 55; refine (entLast ⟨3, 1, 0⟩ [aw1, aw2 g2] _ _ (HL.out.later PC)).mono ?_; rintro e wd ⟨rfl, hbd⟩; rw [aw_last]; have PD := below_call PC hbd)
      | (go_at_call 57; refine (entFollows ⟨3, 1, 0⟩ [aw2 g2] _ _ (HL2.out.later PB) (fun x hx => (HE.out x (List.mem_cons_of_mem _ hx)).later PB) (errType_later HG.out PB)).mono ?_; rintro e wc ⟨rfl, hbc⟩; rw [aw_ord]; have PC := below_call PB hbc)
      | (go_at_call 57; refine (entFollows ⟨3, 1, 0⟩ [aw1, aw2 g2] _ _ (HL.out.later PA) (fun x hx => (HE.out x hx).later PA) (errType_later HG.out PA)).mono ?_; rintro e wb ⟨rfl, hbb⟩; rw [aw_fol]; have PB := below_call PA hbb))
  all_goals go_wp2_with fail
  all_goals go_ret
  all_goals exact ⟨rfl, below_call HBW.out PD⟩
end Go.Proofs.YtfglkpcboodllaaGreatDoor
