/-
  lead's Next: contract.
-/
import Derived.Test.YtnhodaconlodbaaDoorLeadSent
import Derived.Test.YtnhodaconlodbaaDoorErrLead3
import Derived.Deep.RegionHeld3
import Derived.Deep.DeepCutAuto
import Derived.StillTailTactics
set_option linter.unusedVariables false
set_option linter.unusedSimpArgs false
namespace Go.Proofs.YtnhodaconlodbaaDoor
open Go.RowKit

def NextPost (nx many : Int) (b : Idt) (l : List Idt) (w : World) (e : Ending) (w' : World) : Prop :=
  e = .returned (.tuple #[sndV (nextN b l nx many).2, .int .i64 (nextN b l nx many).1]) ∧ Below w.heap.size w w'
theorem next_mk {nx many n : Int} {b : Idt} {l : List Idt} {w w' : World} {s : Snd} {v : Value} (h : nextN b l nx many = (n, s)) (hv : v = .tuple #[sndV s, .int .i64 n]) (hb : Below w.heap.size w w') : NextPost nx many b l w (.returned v) w' := by
  unfold NextPost; rw [h, hv]; exact ⟨rfl, hb⟩
theorem sent_at {P : Program} {f : FuncId} {args : Array Value} {who nx many n : Int} {b : Idt} {l : List Idt} {w : World} {s : Snd} (h : Calls P f args w (SentPost who nx many b l w)) (ha : nextN b l nx many = (n, s)) : Calls P f args w fun e w' => e = .returned (.tuple #[sndV s, whyV who n]) ∧ Below w.heap.size w w' := by
  unfold SentPost at h; rw [ha] at h; exact h
/-- What is sent, and the error's number: the four ends. -/
theorem nextN_ends (nx many : Int) (b : Idt) (l : List Idt) : (∃ s, nextN b l nx many = (0, s)) ∨ nextN b l nx many = (2, snd0) ∨ nextN b l nx many = (7, snd0) ∨ nextN b l nx many = (9, snd0) := by
  cases hr : rightV b l with
  | false => exact .inr (.inl (nextN_bad hr))
  | true =>
    by_cases h1 : b.idx + (l.length : Int) + 1 < nx
    · exact .inr (.inr (.inl (nextN_far hr h1)))
    · by_cases h2 : nx ≤ b.idx
      · exact .inl ⟨_, nextN_piece hr h1 h2⟩
      · cases h3 : atV b l (nx - 1) with
        | none => exact .inr (.inr (.inr (nextN_rot hr h1 h2 h3)))
        | some p => exact .inl ⟨_, nextN_send hr h1 h2 h3⟩
theorem sz : sndV snd0 = .agg #[.bool false, .int .i64 0, .int .i64 0, .int .i64 0, .int .i64 0, .int .i64 0] := rfl
set_option maxRecDepth 100000 in
set_option maxHeartbeats 4000000 in
theorem leadNext (who nx mt pc many : Int) (b : Idt) (l : List Idt) (A : Option Addr) (c : Nat) (w : World) (h : Sl 3 idRow w.heap.size w (.slice A l.length c) l) (hb : I64 b.idx) (hin : ∀ p ∈ l, I64 p.idx) (hnx : I64 nx) (hmy : I64 many) (hG : errTypeIs w) :
    Calls Tryd.prog 51 #[.agg #[.int .i64 who, .int .i64 nx, .int .i64 mt, .int .i64 pc], .agg #[.int .i64 b.idx, .int .i64 b.trm, .int .i64 b.knd, .slice A l.length c], .int .i64 many] w (NextPost nx many b l w) := by
  have HS := Lib.hid (((h.later (below_new w (.cells #[.int .i64 who, .int .i64 nx, .int .i64 mt, .int .i64 pc] 24))).later (below_new _ (.cells #[.int .i64 b.idx, .int .i64 b.trm, .int .i64 b.knd, .slice A l.length c] 32))).later (below_new _ (.cells #[.bool false, .int .i64 0, .int .i64 0, .int .i64 0, .int .i64 0, .int .i64 0] 85)))
  obtain ⟨hb', hin'⟩ : I64 b.idx ∧ (∀ p ∈ l, I64 p.idx) := ⟨hb, hin⟩
  obtain ⟨hnx', hmy'⟩ : I64 nx ∧ I64 many := ⟨hnx, hmy⟩
  have HG := Lib.hid hG
  clear h hb hin hG hnx hmy
  rcases nextN_ends nx many b l with ⟨s, hs⟩ | hs | hs | hs
  · have HF := Lib.hid hs
    clear hs
    go_enter Tryd.func51, Tryd.ntmps51
    go_wp2_with (go_at_call 79; refine (sent_at (leadSent who nx mt pc many b l A c _ (HS.out) hb' hin' hnx' hmy') HF.out).mono ?_; rw [show whyV who 0 = .nilIface from rfl]; unfold sndV; rintro e w1 ⟨rfl, hb1⟩; obtain ⟨pa, pb, pc', P⟩ := boxes3 #[.int .i64 who, .int .i64 nx, .int .i64 mt, .int .i64 pc] #[.int .i64 b.idx, .int .i64 b.trm, .int .i64 b.knd, .slice A l.length c] #[.bool false, .int .i64 0, .int .i64 0, .int .i64 0, .int .i64 0, .int .i64 0] 24 32 85 hb1; obtain ⟨ka, fa, za⟩ := pa.facts; obtain ⟨kb, fb, zb⟩ := pb.facts; obtain ⟨kc, fc, zc⟩ := pc'.facts)
    obtain ⟨W, hW⟩ : ∃ W, W = w1.alloc (.cells #[.bool s.pc, .int .i64 s.pv.idx, .int .i64 s.pv.trm, .int .i64 s.pv.knd, .int .i64 s.fr, .int .i64 s.to_] 85) := ⟨_, rfl⟩
    have Q6 := pc'.alloc (.cells #[.bool s.pc, .int .i64 s.pv.idx, .int .i64 s.pv.trm, .int .i64 s.pv.knd, .int .i64 s.fr, .int .i64 s.to_] 85)
    have QS := Box.new w1 #[.bool s.pc, .int .i64 s.pv.idx, .int .i64 s.pv.trm, .int .i64 s.pv.knd, .int .i64 s.fr, .int .i64 s.to_] 85
    have QP := below_call P (below_new w1 (.cells #[.bool s.pc, .int .i64 s.pv.idx, .int .i64 s.pv.trm, .int .i64 s.pv.knd, .int .i64 s.fr, .int .i64 s.to_] 85))
    have QZ := below_new w1 (.cells #[.bool s.pc, .int .i64 s.pv.idx, .int .i64 s.pv.trm, .int .i64 s.pv.knd, .int .i64 s.fr, .int .i64 s.to_] 85)
    rw [← hW] at Q6 QS QP QZ
    rw [← hW]
    clear hW ka fa za kb fb zb kc fc zc hb1
    have hgl := P.size
    have hg6 := Q6.lt
    have hgs := QS.lt
    obtain ⟨gs, hgs'⟩ : ∃ gs, gs = w1.heap.size := ⟨_, rfl⟩
    have hne : w.heap.size + 1 + 1 ≠ gs := by have := pc'.lt; omega
    rw [← hgs'] at QS hgs
    rw [← hgs']
    clear hgs' pa pb pc' P QZ
    refine (LeadE.is_nil 7 _).mono ?_
    rintro e w2 ⟨rfl, rfl⟩
    obtain ⟨kc, fc, zc⟩ := Q6.facts
    obtain ⟨ks, fs, zs⟩ := QS.facts
    go_wp2_with (go_at_call 57; refine (LeadE.as_nil _ _).mono ?_; rintro e w3 ⟨rfl, rfl⟩)
    refine bodyPost_box ((Q6.set6 _ _ _ _ _ _).alloc _) ((below_set6 QP (n := (w.heap.size + 1 + 1)) (by omega) _ _ _ _ _ _).alloc (by simp only [World.size_setCell]; exact QP.size) _) ?_
    intro wz hz1 hz2
    obtain ⟨kz, -, -⟩ := hz1.facts
    refine bodyPost_ret (v := .tuple #[.agg #[.bool s.pc, .int .i64 s.pv.idx, .int .i64 s.pv.trm, .int .i64 s.pv.knd, .int .i64 s.fr, .int .i64 s.to_], .int .i64 0]) (by simp [results, Tryd.results51, go_sem, kz]) rfl (next_mk HF.out rfl hz2)
  · have HF := Lib.hid hs
    clear hs
    go_enter Tryd.func51, Tryd.ntmps51
    go_wp2_with (go_at_call 79; refine (sent_at (leadSent who nx mt pc many b l A c _ (HS.out) hb' hin' hnx' hmy') HF.out).mono ?_; rw [show whyV who 2 = .iface 139 (.int .i64 2) from rfl, sz]; rintro e w1 ⟨rfl, hb1⟩; obtain ⟨pa, pb, pc', P⟩ := boxes3 #[.int .i64 who, .int .i64 nx, .int .i64 mt, .int .i64 pc] #[.int .i64 b.idx, .int .i64 b.trm, .int .i64 b.knd, .slice A l.length c] #[.bool false, .int .i64 0, .int .i64 0, .int .i64 0, .int .i64 0, .int .i64 0] 24 32 85 hb1; obtain ⟨ka, fa, za⟩ := pa.facts; obtain ⟨kb, fb, zb⟩ := pb.facts; obtain ⟨kc, fc, zc⟩ := pc'.facts)
    obtain ⟨W, hW⟩ : ∃ W, W = w1.alloc (.cells #[.bool false, .int .i64 0, .int .i64 0, .int .i64 0, .int .i64 0, .int .i64 0] 85) := ⟨_, rfl⟩
    have Q6 := pc'.alloc (.cells #[.bool false, .int .i64 0, .int .i64 0, .int .i64 0, .int .i64 0, .int .i64 0] 85)
    have QS := Box.new w1 #[.bool false, .int .i64 0, .int .i64 0, .int .i64 0, .int .i64 0, .int .i64 0] 85
    have QP := below_call P (below_new w1 (.cells #[.bool false, .int .i64 0, .int .i64 0, .int .i64 0, .int .i64 0, .int .i64 0] 85))
    have QZ := below_new w1 (.cells #[.bool false, .int .i64 0, .int .i64 0, .int .i64 0, .int .i64 0, .int .i64 0] 85)
    rw [← hW] at Q6 QS QP QZ
    rw [← hW]
    clear hW ka fa za kb fb zb kc fc zc hb1
    have hgl := P.size
    have hg6 := Q6.lt
    have hgs := QS.lt
    obtain ⟨gs, hgs'⟩ : ∃ gs, gs = w1.heap.size := ⟨_, rfl⟩
    have hne : w.heap.size + 1 + 1 ≠ gs := by have := pc'.lt; omega
    rw [← hgs'] at QS hgs
    rw [← hgs']
    clear hgs' pa pb pc' P QZ
    refine (LeadE.is_num 2 7 _).mono ?_
    rintro e w2 ⟨rfl, hb2⟩; rw [show ((2 : Int) == 7) = false from rfl]
    have R60 := (Q6.later hb2).alloc (.cells #[.int .i64 0] 139)
    have RP0 := below_call QP hb2
    have hz0 := RP0.size
    have hl0 := (Q6.later hb2).lt
    go_upto_region 6 with (go_at_call 57; refine (LeadE.as_num w2.heap.size 2 _ _ (errType_later HG.out (below_call RP0 (below_new _ _))) (Box.new w2 #[.int .i64 0] 139)).mono ?_; rintro e w3 ⟨rfl, hx3, hbut⟩)
    have R6 := R60.but hbut (by omega)
    have RP : Below w.heap.size w w3 := (below_call RP0 (below_new w2 (.cells #[.int .i64 0] 139))).trans (hbut.below (by omega) (by simp; omega))
    obtain ⟨gx, hgx⟩ : ∃ gx, gx = w2.heap.size := ⟨_, rfl⟩
    rw [← hgx] at hx3
    rw [← hgx]
    have hn6 : gx ≠ w.heap.size + 1 + 1 := by omega
    clear hgx hbut R60 RP0 hz0 hl0
    have B6 := Lib.hid (show Box w3.drew (w.heap.size + 1 + 1) #[.bool false, .int .i64 0, .int .i64 0, .int .i64 0, .int .i64 0, .int .i64 0] 85 from R6)
    have BX := Lib.hid (show Box w3.drew gx #[.int .i64 2] 139 from hx3)
    have B6s := Lib.hid (box_drew (Box.set6 R6 (.bool false) (.int .i64 0) (.int .i64 0) (.int .i64 0) (.int .i64 0) (.int .i64 0)))
    have BXs := Lib.hid (box_drew (Box.far6 (g := w.heap.size + 1 + 1) hx3 hn6 (.bool false) (.int .i64 0) (.int .i64 0) (.int .i64 0) (.int .i64 0) (.int .i64 0)))
    have PDs := Lib.hid (below_set6 RP (n := w.heap.size + 1 + 1) (by omega) (.bool false) (.int .i64 0) (.int .i64 0) (.int .i64 0) (.int .i64 0) (.int .i64 0)).drew
    have HF6 : Hid (∀ w', Box w' (w.heap.size + 1 + 1) #[.bool false, .int .i64 0, .int .i64 0, .int .i64 0, .int .i64 0, .int .i64 0] 85 → Box w' gx #[.int .i64 2] 139 → (w'.cell? ⟨w.heap.size + 1 + 1, 0, none⟩ = some (.bool false) ∧ w'.cell? ⟨w.heap.size + 1 + 1, 1, none⟩ = some (.int .i64 0) ∧ w'.cell? ⟨w.heap.size + 1 + 1, 2, none⟩ = some (.int .i64 0) ∧ w'.cell? ⟨w.heap.size + 1 + 1, 3, none⟩ = some (.int .i64 0) ∧ w'.cell? ⟨w.heap.size + 1 + 1, 4, none⟩ = some (.int .i64 0) ∧ w'.cell? ⟨w.heap.size + 1 + 1, 5, none⟩ = some (.int .i64 0) ∧ w'.cell? ⟨gx, 0, none⟩ = some (.int .i64 2) ∧ (∀ i, w'.frozen? ⟨w.heap.size + 1 + 1, i, none⟩ = false) ∧ w.heap.size + 1 + 1 < w'.heap.size)) := fun w' q6 q3 => ⟨q6.cell 0, q6.cell 1, q6.cell 2, q6.cell 3, q6.cell 4, q6.cell 5, q3.cell 0, q6.free, q6.lt⟩
    obtain ⟨kz, fz, zz⟩ := R6.facts
    refine wp_region_held_drew (S := fun w' => w'.cell? ⟨w.heap.size + 1 + 1, 0, none⟩ = some (.bool false) ∧ w'.cell? ⟨w.heap.size + 1 + 1, 1, none⟩ = some (.int .i64 0) ∧ w'.cell? ⟨w.heap.size + 1 + 1, 2, none⟩ = some (.int .i64 0) ∧ w'.cell? ⟨w.heap.size + 1 + 1, 3, none⟩ = some (.int .i64 0) ∧ w'.cell? ⟨w.heap.size + 1 + 1, 4, none⟩ = some (.int .i64 0) ∧ w'.cell? ⟨w.heap.size + 1 + 1, 5, none⟩ = some (.int .i64 0) ∧ w'.cell? ⟨gx, 0, none⟩ = some (.int .i64 2) ∧ (∀ i, w'.frozen? ⟨w.heap.size + 1 + 1, i, none⟩ = false) ∧ w.heap.size + 1 + 1 < w'.heap.size) (by kernel_rfl) (HF6.out _ B6.out BX.out) (fun hHeld => ?_)
    refine wpAnyH_take (i := 0) (v := .agg #[.bool false, .int .i64 0, .int .i64 0, .int .i64 0, .int .i64 0, .int .i64 0] ) rfl (by kernel_rfl) (by kernel_rfl) (by kernel_rfl) (fun _ _ _ h => h) (Or.inl ⟨by rfl, by (intro w hSw; clear hSw hHeld; go_simp)⟩) (by assumption) ?_
    try simp only [Act.put, List.setIfInBounds_toArray, List.set_cons_zero, List.set_cons_succ, List.getElem_toArray, List.getElem_cons_zero, List.getElem_cons_succ]
    refine wpAnyH_take (i := 1) (v := .int .i64 2) rfl (by kernel_rfl) (by kernel_rfl) (by kernel_rfl) (fun _ _ _ h => h) (Or.inl ⟨by rfl, by (intro w hSw; clear hHeld; go_split_ands; go_simp)⟩) (by assumption) ?_
    try simp only [Act.put, List.setIfInBounds_toArray, List.set_cons_zero, List.set_cons_succ, List.getElem_toArray, List.getElem_cons_zero, List.getElem_cons_succ]
    refine wpAnyH_ready (rs := [2]) (by kernel_rfl) (by simp) ?_
    refine AllReadyH.cons rfl (fun K hK => ?_) AllReadyH.nil
    go_simp
    refine hK.out _ _ (HF6.out _ B6s.out BXs.out) (fun hH => ?_)
    clear hK K hHeld
    try simp only [Act.put, List.setIfInBounds_toArray, List.set_cons_zero, List.set_cons_succ, List.getElem_toArray, List.getElem_cons_zero, List.getElem_cons_succ]
    refine wpAnyH_take (i := 3) (v := .int .i64 2) rfl (by kernel_rfl) (by kernel_rfl) (by kernel_rfl) (fun _ _ _ h => h) (Or.inl ⟨by rfl, by (intro w hSw; clear hSw hH; go_simp)⟩) (by assumption) ?_
    try simp only [Act.put, List.setIfInBounds_toArray, List.set_cons_zero, List.set_cons_succ, List.getElem_toArray, List.getElem_cons_zero, List.getElem_cons_succ]
    refine wpAnyH_done (by kernel_rfl) ?_ _
    clear hH kz fz zz
    go_wp2_with fail
    refine bodyPost_box (B6s.out) (PDs.out) ?_
    intro wz hz1 hz2
    obtain ⟨kz, -, -⟩ := hz1.facts
    refine bodyPost_ret (v := .tuple #[.agg #[.bool false, .int .i64 0, .int .i64 0, .int .i64 0, .int .i64 0, .int .i64 0], .int .i64 2]) (by simp [results, Tryd.results51, go_sem, kz]) rfl (next_mk HF.out rfl hz2)
  · have HF := Lib.hid hs
    clear hs
    go_enter Tryd.func51, Tryd.ntmps51
    go_wp2_with (go_at_call 79; refine (sent_at (leadSent who nx mt pc many b l A c _ (HS.out) hb' hin' hnx' hmy') HF.out).mono ?_; rw [show whyV who 7 = .iface 172 (.agg #[.int .i64 who, .iface 139 (.int .i64 7)]) from rfl, sz]; rintro e w1 ⟨rfl, hb1⟩; obtain ⟨pa, pb, pc', P⟩ := boxes3 #[.int .i64 who, .int .i64 nx, .int .i64 mt, .int .i64 pc] #[.int .i64 b.idx, .int .i64 b.trm, .int .i64 b.knd, .slice A l.length c] #[.bool false, .int .i64 0, .int .i64 0, .int .i64 0, .int .i64 0, .int .i64 0] 24 32 85 hb1; obtain ⟨ka, fa, za⟩ := pa.facts; obtain ⟨kb, fb, zb⟩ := pb.facts; obtain ⟨kc, fc, zc⟩ := pc'.facts)
    obtain ⟨W, hW⟩ : ∃ W, W = w1.alloc (.cells #[.bool false, .int .i64 0, .int .i64 0, .int .i64 0, .int .i64 0, .int .i64 0] 85) := ⟨_, rfl⟩
    have Q6 := pc'.alloc (.cells #[.bool false, .int .i64 0, .int .i64 0, .int .i64 0, .int .i64 0, .int .i64 0] 85)
    have QS := Box.new w1 #[.bool false, .int .i64 0, .int .i64 0, .int .i64 0, .int .i64 0, .int .i64 0] 85
    have QP := below_call P (below_new w1 (.cells #[.bool false, .int .i64 0, .int .i64 0, .int .i64 0, .int .i64 0, .int .i64 0] 85))
    have QZ := below_new w1 (.cells #[.bool false, .int .i64 0, .int .i64 0, .int .i64 0, .int .i64 0, .int .i64 0] 85)
    rw [← hW] at Q6 QS QP QZ
    rw [← hW]
    clear hW ka fa za kb fb zb kc fc zc hb1
    have hgl := P.size
    have hg6 := Q6.lt
    have hgs := QS.lt
    obtain ⟨gs, hgs'⟩ : ∃ gs, gs = w1.heap.size := ⟨_, rfl⟩
    have hne : w.heap.size + 1 + 1 ≠ gs := by have := pc'.lt; omega
    rw [← hgs'] at QS hgs
    rw [← hgs']
    clear hgs' pa pb pc' P QZ
    refine (LeadE.is_wrap who 7 7 _).mono ?_
    rintro e w2 ⟨rfl, hb2⟩; rw [show ((7 : Int) == 7) = true from rfl]
    have R6 := Q6.later hb2
    have RP := below_call QP hb2
    obtain ⟨kc, fc, zc⟩ := R6.facts
    go_wp2_with fail
    refine bodyPost_box (R6.set6 _ _ _ _ _ _) (below_set6 RP (n := (w.heap.size + 1 + 1)) (by omega) _ _ _ _ _ _) ?_
    intro wz hz1 hz2
    obtain ⟨kz, -, -⟩ := hz1.facts
    refine bodyPost_ret (v := .tuple #[.agg #[.bool false, .int .i64 0, .int .i64 0, .int .i64 0, .int .i64 0, .int .i64 0], .int .i64 7]) (by simp [results, Tryd.results51, go_sem, kz]) rfl (next_mk HF.out rfl hz2)
  · have HF := Lib.hid hs
    clear hs
    go_enter Tryd.func51, Tryd.ntmps51
    go_wp2_with (go_at_call 79; refine (sent_at (leadSent who nx mt pc many b l A c _ (HS.out) hb' hin' hnx' hmy') HF.out).mono ?_; rw [show whyV who 9 = .iface 172 (.agg #[.int .i64 who, .iface 139 (.int .i64 9)]) from rfl, sz]; rintro e w1 ⟨rfl, hb1⟩; obtain ⟨pa, pb, pc', P⟩ := boxes3 #[.int .i64 who, .int .i64 nx, .int .i64 mt, .int .i64 pc] #[.int .i64 b.idx, .int .i64 b.trm, .int .i64 b.knd, .slice A l.length c] #[.bool false, .int .i64 0, .int .i64 0, .int .i64 0, .int .i64 0, .int .i64 0] 24 32 85 hb1; obtain ⟨ka, fa, za⟩ := pa.facts; obtain ⟨kb, fb, zb⟩ := pb.facts; obtain ⟨kc, fc, zc⟩ := pc'.facts)
    obtain ⟨W, hW⟩ : ∃ W, W = w1.alloc (.cells #[.bool false, .int .i64 0, .int .i64 0, .int .i64 0, .int .i64 0, .int .i64 0] 85) := ⟨_, rfl⟩
    have Q6 := pc'.alloc (.cells #[.bool false, .int .i64 0, .int .i64 0, .int .i64 0, .int .i64 0, .int .i64 0] 85)
    have QS := Box.new w1 #[.bool false, .int .i64 0, .int .i64 0, .int .i64 0, .int .i64 0, .int .i64 0] 85
    have QP := below_call P (below_new w1 (.cells #[.bool false, .int .i64 0, .int .i64 0, .int .i64 0, .int .i64 0, .int .i64 0] 85))
    have QZ := below_new w1 (.cells #[.bool false, .int .i64 0, .int .i64 0, .int .i64 0, .int .i64 0, .int .i64 0] 85)
    rw [← hW] at Q6 QS QP QZ
    rw [← hW]
    clear hW ka fa za kb fb zb kc fc zc hb1
    have hgl := P.size
    have hg6 := Q6.lt
    have hgs := QS.lt
    obtain ⟨gs, hgs'⟩ : ∃ gs, gs = w1.heap.size := ⟨_, rfl⟩
    have hne : w.heap.size + 1 + 1 ≠ gs := by have := pc'.lt; omega
    rw [← hgs'] at QS hgs
    rw [← hgs']
    clear hgs' pa pb pc' P QZ
    refine (LeadE.is_wrap who 9 7 _).mono ?_
    rintro e w2 ⟨rfl, hb2⟩; rw [show ((9 : Int) == 7) = false from rfl]
    have R60 := (Q6.later hb2).alloc (.cells #[.int .i64 0] 139)
    have RP0 := below_call QP hb2
    have hz0 := RP0.size
    have hl0 := (Q6.later hb2).lt
    go_upto_region 6 with (go_at_call 57; refine (LeadE.as_rot w2.heap.size who 9 _ _ (errType_later HG.out (below_call RP0 (below_new _ _))) (Box.new w2 #[.int .i64 0] 139)).mono ?_; rintro e w3 ⟨rfl, hx3, hbut⟩)
    have R6 := R60.but hbut (by omega)
    have RP : Below w.heap.size w w3 := (below_call RP0 (below_new w2 (.cells #[.int .i64 0] 139))).trans (hbut.below (by omega) (by simp; omega))
    obtain ⟨gx, hgx⟩ : ∃ gx, gx = w2.heap.size := ⟨_, rfl⟩
    rw [← hgx] at hx3
    rw [← hgx]
    have hn6 : gx ≠ w.heap.size + 1 + 1 := by omega
    clear hgx hbut R60 RP0 hz0 hl0
    have B6 := Lib.hid (show Box w3.drew (w.heap.size + 1 + 1) #[.bool false, .int .i64 0, .int .i64 0, .int .i64 0, .int .i64 0, .int .i64 0] 85 from R6)
    have BX := Lib.hid (show Box w3.drew gx #[.int .i64 9] 139 from hx3)
    have B6s := Lib.hid (box_drew (Box.set6 R6 (.bool false) (.int .i64 0) (.int .i64 0) (.int .i64 0) (.int .i64 0) (.int .i64 0)))
    have BXs := Lib.hid (box_drew (Box.far6 (g := w.heap.size + 1 + 1) hx3 hn6 (.bool false) (.int .i64 0) (.int .i64 0) (.int .i64 0) (.int .i64 0) (.int .i64 0)))
    have PDs := Lib.hid (below_set6 RP (n := w.heap.size + 1 + 1) (by omega) (.bool false) (.int .i64 0) (.int .i64 0) (.int .i64 0) (.int .i64 0) (.int .i64 0)).drew
    have HF6 : Hid (∀ w', Box w' (w.heap.size + 1 + 1) #[.bool false, .int .i64 0, .int .i64 0, .int .i64 0, .int .i64 0, .int .i64 0] 85 → Box w' gx #[.int .i64 9] 139 → (w'.cell? ⟨w.heap.size + 1 + 1, 0, none⟩ = some (.bool false) ∧ w'.cell? ⟨w.heap.size + 1 + 1, 1, none⟩ = some (.int .i64 0) ∧ w'.cell? ⟨w.heap.size + 1 + 1, 2, none⟩ = some (.int .i64 0) ∧ w'.cell? ⟨w.heap.size + 1 + 1, 3, none⟩ = some (.int .i64 0) ∧ w'.cell? ⟨w.heap.size + 1 + 1, 4, none⟩ = some (.int .i64 0) ∧ w'.cell? ⟨w.heap.size + 1 + 1, 5, none⟩ = some (.int .i64 0) ∧ w'.cell? ⟨gx, 0, none⟩ = some (.int .i64 9) ∧ (∀ i, w'.frozen? ⟨w.heap.size + 1 + 1, i, none⟩ = false) ∧ w.heap.size + 1 + 1 < w'.heap.size)) := fun w' q6 q3 => ⟨q6.cell 0, q6.cell 1, q6.cell 2, q6.cell 3, q6.cell 4, q6.cell 5, q3.cell 0, q6.free, q6.lt⟩
    obtain ⟨kz, fz, zz⟩ := R6.facts
    refine wp_region_held_drew (S := fun w' => w'.cell? ⟨w.heap.size + 1 + 1, 0, none⟩ = some (.bool false) ∧ w'.cell? ⟨w.heap.size + 1 + 1, 1, none⟩ = some (.int .i64 0) ∧ w'.cell? ⟨w.heap.size + 1 + 1, 2, none⟩ = some (.int .i64 0) ∧ w'.cell? ⟨w.heap.size + 1 + 1, 3, none⟩ = some (.int .i64 0) ∧ w'.cell? ⟨w.heap.size + 1 + 1, 4, none⟩ = some (.int .i64 0) ∧ w'.cell? ⟨w.heap.size + 1 + 1, 5, none⟩ = some (.int .i64 0) ∧ w'.cell? ⟨gx, 0, none⟩ = some (.int .i64 9) ∧ (∀ i, w'.frozen? ⟨w.heap.size + 1 + 1, i, none⟩ = false) ∧ w.heap.size + 1 + 1 < w'.heap.size) (by kernel_rfl) (HF6.out _ B6.out BX.out) (fun hHeld => ?_)
    refine wpAnyH_take (i := 0) (v := .agg #[.bool false, .int .i64 0, .int .i64 0, .int .i64 0, .int .i64 0, .int .i64 0] ) rfl (by kernel_rfl) (by kernel_rfl) (by kernel_rfl) (fun _ _ _ h => h) (Or.inl ⟨by rfl, by (intro w hSw; clear hSw hHeld; go_simp)⟩) (by assumption) ?_
    try simp only [Act.put, List.setIfInBounds_toArray, List.set_cons_zero, List.set_cons_succ, List.getElem_toArray, List.getElem_cons_zero, List.getElem_cons_succ]
    refine wpAnyH_take (i := 1) (v := .int .i64 9) rfl (by kernel_rfl) (by kernel_rfl) (by kernel_rfl) (fun _ _ _ h => h) (Or.inl ⟨by rfl, by (intro w hSw; clear hHeld; go_split_ands; go_simp)⟩) (by assumption) ?_
    try simp only [Act.put, List.setIfInBounds_toArray, List.set_cons_zero, List.set_cons_succ, List.getElem_toArray, List.getElem_cons_zero, List.getElem_cons_succ]
    refine wpAnyH_ready (rs := [2]) (by kernel_rfl) (by simp) ?_
    refine AllReadyH.cons rfl (fun K hK => ?_) AllReadyH.nil
    go_simp
    refine hK.out _ _ (HF6.out _ B6s.out BXs.out) (fun hH => ?_)
    clear hK K hHeld
    try simp only [Act.put, List.setIfInBounds_toArray, List.set_cons_zero, List.set_cons_succ, List.getElem_toArray, List.getElem_cons_zero, List.getElem_cons_succ]
    refine wpAnyH_take (i := 3) (v := .int .i64 9) rfl (by kernel_rfl) (by kernel_rfl) (by kernel_rfl) (fun _ _ _ h => h) (Or.inl ⟨by rfl, by (intro w hSw; clear hSw hH; go_simp)⟩) (by assumption) ?_
    try simp only [Act.put, List.setIfInBounds_toArray, List.set_cons_zero, List.set_cons_succ, List.getElem_toArray, List.getElem_cons_zero, List.getElem_cons_succ]
    refine wpAnyH_done (by kernel_rfl) ?_ _
    clear hH kz fz zz
    go_wp2_with fail
    refine bodyPost_box (B6s.out) (PDs.out) ?_
    intro wz hz1 hz2
    obtain ⟨kz, -, -⟩ := hz1.facts
    refine bodyPost_ret (v := .tuple #[.agg #[.bool false, .int .i64 0, .int .i64 0, .int .i64 0, .int .i64 0, .int .i64 0], .int .i64 9]) (by simp [results, Tryd.results51, go_sem, kz]) rfl (next_mk HF.out rfl hz2)
end Go.Proofs.YtnhodaconlodbaaDoor
