/-
  limpetkit's bag: whether all lies apart: contracts.
-/
import Derived.Test.YtfglkpcboodllaaGreatDoorBag
import Derived.Test.YtfglkpcboodllaaGreatDoorFlatBytes
set_option linter.unusedVariables false
set_option linter.unusedSimpArgs false
namespace Go.Proofs.YtfglkpcboodllaaGreatDoor
open Go.RowKit

set_option maxRecDepth 100000 in
set_option maxHeartbeats 4000000 in
/-- A bag whose flats each leave a class of worlds. -/
theorem bagApart (gb : Nat) (x0 x1 x2 x3 x4 x5 x6 x7 x8 x9 x10 x11 x12 x13 x14 : Sv) (C : World → Prop) (w : World) (h0 : C w) (hd : ∀ v, C v → C v.drew) (hbox : ∀ v, C v → Box v gb #[Sv.v x0, Sv.v x1, Sv.v x2, Sv.v x3, Sv.v x4, Sv.v x5, Sv.v x6, Sv.v x7, Sv.v x8, Sv.v x9, Sv.v x10, Sv.v x11, Sv.v x12, Sv.v x13, Sv.v x14] 138)
    (f0 : ∀ v, C v → Calls Tryz.prog 127 #[.slice x0.1 x0.2.1 x0.2.2] v (fun e w' => e = .returned (.bool true) ∧ C w'))
    (f1 : ∀ v, C v → Calls Tryz.prog 128 #[.slice x1.1 x1.2.1 x1.2.2] v (fun e w' => e = .returned (.bool true) ∧ C w'))
    (f2 : ∀ v, C v → Calls Tryz.prog 129 #[.slice x2.1 x2.2.1 x2.2.2] v (fun e w' => e = .returned (.bool true) ∧ C w'))
    (f3 : ∀ v, C v → Calls Tryz.prog 130 #[.slice x3.1 x3.2.1 x3.2.2] v (fun e w' => e = .returned (.bool true) ∧ C w'))
    (f4 : ∀ v, C v → Calls Tryz.prog 131 #[.slice x4.1 x4.2.1 x4.2.2] v (fun e w' => e = .returned (.bool true) ∧ C w'))
    (f5 : ∀ v, C v → Calls Tryz.prog 132 #[.slice x5.1 x5.2.1 x5.2.2] v (fun e w' => e = .returned (.bool true) ∧ C w'))
    (f6 : ∀ v, C v → Calls Tryz.prog 133 #[.slice x6.1 x6.2.1 x6.2.2] v (fun e w' => e = .returned (.bool true) ∧ C w'))
    (f7 : ∀ v, C v → Calls Tryz.prog 134 #[.slice x7.1 x7.2.1 x7.2.2] v (fun e w' => e = .returned (.bool true) ∧ C w'))
    (f8 : ∀ v, C v → Calls Tryz.prog 135 #[.slice x8.1 x8.2.1 x8.2.2] v (fun e w' => e = .returned (.bool true) ∧ C w'))
    (f9 : ∀ v, C v → Calls Tryz.prog 136 #[.slice x9.1 x9.2.1 x9.2.2] v (fun e w' => e = .returned (.bool true) ∧ C w'))
    (f10 : ∀ v, C v → Calls Tryz.prog 137 #[.slice x10.1 x10.2.1 x10.2.2] v (fun e w' => e = .returned (.bool true) ∧ C w'))
    (f11 : ∀ v, C v → Calls Tryz.prog 138 #[.slice x11.1 x11.2.1 x11.2.2] v (fun e w' => e = .returned (.bool true) ∧ C w'))
    (f12 : ∀ v, C v → Calls Tryz.prog 139 #[.slice x12.1 x12.2.1 x12.2.2] v (fun e w' => e = .returned (.bool true) ∧ C w'))
    (f13 : ∀ v, C v → Calls Tryz.prog 140 #[.slice x13.1 x13.2.1 x13.2.2] v (fun e w' => e = .returned (.bool true) ∧ C w'))
    (f14 : ∀ v, C v → Calls Tryz.prog 141 #[.slice x14.1 x14.2.1 x14.2.2] v (fun e w' => e = .returned (.bool true) ∧ C w')) :
    Calls Tryz.prog 92 #[.pointer (some ⟨gb, 0, none⟩)] w fun e w' => e = .returned (.bool true) ∧ C w' := by
  have k0 : ∀ zw : Cls C, zw.wd.cell? ⟨gb, 0, none⟩ = some (.slice x0.1 x0.2.1 x0.2.2) := fun zw => (hbox _ zw.is).cell 0
  have k1 : ∀ zw : Cls C, zw.wd.cell? ⟨gb, 1, none⟩ = some (.slice x1.1 x1.2.1 x1.2.2) := fun zw => (hbox _ zw.is).cell 1
  have k2 : ∀ zw : Cls C, zw.wd.cell? ⟨gb, 2, none⟩ = some (.slice x2.1 x2.2.1 x2.2.2) := fun zw => (hbox _ zw.is).cell 2
  have k3 : ∀ zw : Cls C, zw.wd.cell? ⟨gb, 3, none⟩ = some (.slice x3.1 x3.2.1 x3.2.2) := fun zw => (hbox _ zw.is).cell 3
  have k4 : ∀ zw : Cls C, zw.wd.cell? ⟨gb, 4, none⟩ = some (.slice x4.1 x4.2.1 x4.2.2) := fun zw => (hbox _ zw.is).cell 4
  have k5 : ∀ zw : Cls C, zw.wd.cell? ⟨gb, 5, none⟩ = some (.slice x5.1 x5.2.1 x5.2.2) := fun zw => (hbox _ zw.is).cell 5
  have k6 : ∀ zw : Cls C, zw.wd.cell? ⟨gb, 6, none⟩ = some (.slice x6.1 x6.2.1 x6.2.2) := fun zw => (hbox _ zw.is).cell 6
  have k7 : ∀ zw : Cls C, zw.wd.cell? ⟨gb, 7, none⟩ = some (.slice x7.1 x7.2.1 x7.2.2) := fun zw => (hbox _ zw.is).cell 7
  have k8 : ∀ zw : Cls C, zw.wd.cell? ⟨gb, 8, none⟩ = some (.slice x8.1 x8.2.1 x8.2.2) := fun zw => (hbox _ zw.is).cell 8
  have k9 : ∀ zw : Cls C, zw.wd.cell? ⟨gb, 9, none⟩ = some (.slice x9.1 x9.2.1 x9.2.2) := fun zw => (hbox _ zw.is).cell 9
  have k10 : ∀ zw : Cls C, zw.wd.cell? ⟨gb, 10, none⟩ = some (.slice x10.1 x10.2.1 x10.2.2) := fun zw => (hbox _ zw.is).cell 10
  have k11 : ∀ zw : Cls C, zw.wd.cell? ⟨gb, 11, none⟩ = some (.slice x11.1 x11.2.1 x11.2.2) := fun zw => (hbox _ zw.is).cell 11
  have k12 : ∀ zw : Cls C, zw.wd.cell? ⟨gb, 12, none⟩ = some (.slice x12.1 x12.2.1 x12.2.2) := fun zw => (hbox _ zw.is).cell 12
  have k13 : ∀ zw : Cls C, zw.wd.cell? ⟨gb, 13, none⟩ = some (.slice x13.1 x13.2.1 x13.2.2) := fun zw => (hbox _ zw.is).cell 13
  have k14 : ∀ zw : Cls C, zw.wd.cell? ⟨gb, 14, none⟩ = some (.slice x14.1 x14.2.1 x14.2.2) := fun zw => (hbox _ zw.is).cell 14
  clear hbox
  go_enter Tryz.func92, Tryz.ntmps92
  go_upto_region 1 with fail
  refine wp_region_cls_plain C h0 ?_
  intro hne
  simp only [List.append_eq, List.cons_append, List.nil_append]
  repeat (go_big_quiet_step ((rename_i x5; first
  | (go_at_call 127; exact cls_of x5 (f0 _ x5.is))
  | (go_at_call 128; exact cls_of x5 (f1 _ x5.is))
  | (go_at_call 129; exact cls_of x5 (f2 _ x5.is))
  | (go_at_call 130; exact cls_of x5 (f3 _ x5.is))
  | (go_at_call 131; exact cls_of x5 (f4 _ x5.is))
  | (go_at_call 132; exact cls_of x5 (f5 _ x5.is))
  | (go_at_call 133; exact cls_of x5 (f6 _ x5.is))
  | (go_at_call 134; exact cls_of x5 (f7 _ x5.is))
  | (go_at_call 135; exact cls_of x5 (f8 _ x5.is))
  | (go_at_call 136; exact cls_of x5 (f9 _ x5.is))
  | (go_at_call 137; exact cls_of x5 (f10 _ x5.is))
  | (go_at_call 138; exact cls_of x5 (f11 _ x5.is))
  | (go_at_call 139; exact cls_of x5 (f12 _ x5.is))
  | (go_at_call 140; exact cls_of x5 (f13 _ x5.is))
  | (go_at_call 141; exact cls_of x5 (f14 _ x5.is)))))
  refine wpQuiet_nil ?_
  intro _ hw'
  obtain ⟨x9, hw''⟩ := hw'
  subst hw''
  go_wp2_with fail
  go_ret
  exact ⟨rfl, x9.is⟩
end Go.Proofs.YtfglkpcboodllaaGreatDoor
