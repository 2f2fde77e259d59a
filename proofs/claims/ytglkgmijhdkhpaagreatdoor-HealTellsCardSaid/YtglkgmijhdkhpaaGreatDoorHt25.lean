/-
  limpetkit's flatIdents: lists of api.Ident that lie apart: contract.
-/
import Derived.Test.YtglkgmijhdkhpaaGreatDoorHt21
import Derived.Test.YtglkgmijhdkhpaaGreatDoorHt12
import Derived.Deep.DeepCutAuto
import Derived.Test.YtglkgmijhdkhpaaGreatDoorHt24
set_option linter.unusedVariables false
set_option linter.unusedSimpArgs false
namespace Go.Proofs.YtglkgmijhdkhpaaGreatDoor
open Go.RowKit

def mkId (j i : Nat) : Idt := ⟨mkI (j : Int) (i : Int), 0, 0⟩
/-- Families whose first kk are marked. -/
def MarkedC {α : Type} (mk : Nat → Nat → α) (kk n : Nat) (L L' : Nat → List α) : Prop := (∀ j, j < n → (L' j).length = (L j).length) ∧ ∀ j, j < kk → L' j = mkd mk j (L j).length
abbrev FamIdents (base : Nat) (out : List Nat) (n : Nat) (w : World) (V G : Nat → Value) (L M : Nat → List Idt) : Prop := FamsC 3 idRow 42 base out n w V G L M
theorem nilInfoIdents : (Tryz.prog.info? 22).map (fun i => (i.zero, i.size, i.bytes)) = some (some nilS, 1, 24) := by kernel_rfl
theorem wpList_make_idents {P : Program} (w : World) {ops : Array Oper} {rest : List Oper} {o : Oper} {a : Act} {Q : Exit → Act → World → Prop}
    (hg : o.guard = none) (l c : Operand) (t : TypeId) (hop : o.op = Op.makeSlice t l c)
    (base : Nat) (e : TypeId) (h1 : P.underlying t = some (.slice e)) (hinfo : (P.info? e).map (fun i => (i.zero, i.size, i.bytes)) = some (some (.agg #[.int .i64 0, .int .i64 0, .int .i64 0]), 3, 24))
    (L C : Int) (n : Nat) (hl : a.eval l = .int .i64 L) (hc : a.eval c = .int .i64 C) (hL : L = (n : Int)) (hC : C = (n : Int)) (b2 : n = 64) (b4 : base ≤ w.heap.size)
    (hK : ∀ w', Own 3 idRow e base w' (.slice (some ⟨w.heap.size, 0, none⟩) n n) (List.replicate n (⟨0, 0, 0⟩ : Idt)) → Below base w w' → w.heap.size < w'.heap.size → wpList P ops Q rest (a.put o.dst (.slice (some ⟨w.heap.size, 0, none⟩) n n)) w') :
    wpList P ops Q (o :: rest) a w := by
  obtain ⟨i, hi, hz, hsz, hby⟩ := info_parts hinfo
  refine wpList_make_full w hg l c t hop base e i _ 3 h1 hi hz hsz .i64 .i64 L C n hl hc hL hC (by rw [hby]; omega) (by unfold maxLen; omega) b4 fun w' r1 r2 => ?_
  have ho : Own 3 idRow e base w' (.slice (some ⟨w.heap.size, 0, none⟩) n n) (List.replicate n (⟨0, 0, 0⟩ : Idt)) := by
    unfold Own
    have e1 : (List.replicate n (⟨0, 0, 0⟩ : Idt)).flatMap idRow = (madeCells (Value.agg #[.int .i64 0, .int .i64 0, .int .i64 0]).cells (n * 3)).toList := by
      subst b2
      kernel_rfl
    rw [List.length_replicate, e1]; exact r1
  refine hK w' ho (grown_below r2 b4 (by simp)) ?_
  rcases r1.2 with ⟨hv, _⟩ | ⟨g, cap, cur, hv, _, hh, _⟩
  · simp at hv
  · simp only [Value.slice.injEq, Option.some.injEq, Addr.mk.injEq, and_true] at hv
    obtain ⟨rfl, -⟩ := hv
    exact (Array.getElem?_eq_some_iff.1 hh).1
set_option maxHeartbeats 400000 in
theorem markIdentAny (k x : Int) (w : World) (k0 : 0 ≤ k) (k1 : k ≤ 1000000) (h0 : 0 ≤ x) (h1 : x ≤ 1000000) : Calls Tryz.prog 28 #[.int .i64 k, .int .i64 x] w fun e w' => e = .returned (.agg #[.int .i64 (mkI k x), .int .i64 0, .int .i64 0]) ∧ Below w.heap.size w w' := by
  go_enter Tryz.func28, Tryz.ntmps28
  go_wp2_with (go_at_call 55; refine (markAny k x _ k0 k1 h0 h1).mono ?_; rintro e w2 ⟨rfl, rfl⟩)
  refine bodyPost_ret (v := .agg #[.int .i64 (mkI k x), .int .i64 0, .int .i64 0]) (by simp [results, Tryz.results28, go_sem]) rfl ⟨rfl, ?_⟩
  repeat refine below_set ?_ (by simp)
  exact below_new _ _
theorem Own.writeRowIdents {e : TypeId} {base g cap n k : Nat} {w : World} {l : List Idt} {x y : Idt} (h : Own 3 idRow e base w (.slice (some ⟨g, 0, none⟩) n cap) l) (hx : l[k]? = some x) :
    Own 3 idRow e base (((w.setCell ⟨g, k * 3, none⟩ (.int .i64 y.idx)).setCell ⟨g, k * 3 + 1, none⟩ (.int .i64 y.trm)).setCell ⟨g, k * 3 + 2, none⟩ (.int .i64 y.knd)) (.slice (some ⟨g, 0, none⟩) n cap) (l.set k y) := by
  have hk := (List.getElem?_eq_some_iff.1 hx).1
  have h1 := h.write idRow_length (i := k) (j := 0) (y := ⟨y.idx, x.trm, x.knd⟩) (u := .int .i64 y.idx) hx rfl (by omega)
  have h2 := h1.write idRow_length (i := k) (j := 1) (y := ⟨y.idx, y.trm, x.knd⟩) (u := .int .i64 y.trm) (x := ⟨y.idx, x.trm, x.knd⟩) (by simp [hk]) rfl (by omega)
  rw [List.set_set] at h2
  have h3 := h2.write idRow_length (i := k) (j := 2) (y := y) (u := .int .i64 y.knd) (x := ⟨y.idx, y.trm, x.knd⟩) (by simp [hk]) rfl (by omega)
  rw [List.set_set] at h3
  exact h3
theorem OwnC.writeRowIdents {e : TypeId} {base g cap n k : Nat} {w : World} {l : List Idt} {x y : Idt} (h : OwnC 3 idRow e base w (.slice (some ⟨g, 0, none⟩) n cap) l) (hx : l[k]? = some x) :
    OwnC 3 idRow e base (((w.setCell ⟨g, k * 3, none⟩ (.int .i64 y.idx)).setCell ⟨g, k * 3 + 1, none⟩ (.int .i64 y.trm)).setCell ⟨g, k * 3 + 2, none⟩ (.int .i64 y.knd)) (.slice (some ⟨g, 0, none⟩) n cap) (l.set k y) := by
  have hk := (List.getElem?_eq_some_iff.1 hx).1
  have h1 := h.write idRow_length (i := k) (j := 0) (y := ⟨y.idx, x.trm, x.knd⟩) (u := .int .i64 y.idx) hx rfl (by omega)
  have h2 := h1.write idRow_length (i := k) (j := 1) (y := ⟨y.idx, y.trm, x.knd⟩) (u := .int .i64 y.trm) (x := ⟨y.idx, x.trm, x.knd⟩) (by simp [hk]) rfl (by omega)
  rw [List.set_set] at h2
  have h3 := h2.write idRow_length (i := k) (j := 2) (y := y) (u := .int .i64 y.knd) (x := ⟨y.idx, y.trm, x.knd⟩) (by simp [hk]) rfl (by omega)
  rw [List.set_set] at h3
  exact h3
set_option maxRecDepth 100000 in
set_option maxHeartbeats 8000000 in
theorem flatIdents (base n : Nat) (ext : List Nat) (V : Nat → Value) (L : Nat → List Idt) (go oo co : Nat) (w : World)
    (hf : FamIdents base (go :: ext) n w V (fun _ => nilS) L (fun _ => [])) (ho : ∀ j, j < n → w.cell? ⟨go, oo + j, none⟩ = some (V j)) (hgo : go < w.heap.size) (hn : n ≤ 100000) (hL : ∀ j, j < n → (L j).length ≤ 100000) (hbase : base ≤ w.heap.size) (hext : ∀ p, p ∈ ext → p < w.heap.size) :
    Calls Tryz.prog 88 #[.slice (some ⟨go, oo, none⟩) n co] w fun e w' => e = .returned (.bool true) ∧ Kp base ext w w' ∧ ∃ L', FamIdents base (go :: ext) n w' V (fun _ => nilS) L' (fun _ => []) ∧ ∀ j, j < n → (L' j).length = (L j).length := by
  have HF := Lib.hid hf
  have HO := Lib.hid ho
  have HL := Lib.hid hL
  have HEX := Lib.hid hext
  clear hf ho hL hext
  go_enter Tryz.func88, Tryz.ntmps88
  go_wp2_with fail
  go_loopw [3] (fun i wr => ∃ (kk : Nat) (L' : Nat → List Idt), kk ≤ n ∧ i = .int .i64 kk ∧ FamIdents base (go :: ext) n wr V (fun _ => nilS) L' (fun _ => []) ∧ MarkedC mkId kk n L L' ∧ (∀ j, j < n → wr.cell? ⟨go, oo + j, none⟩ = some (V j)) ∧ go < wr.heap.size ∧ Kp base ext w wr) (fun i _ => n - (intOf i).toNat)
  case atStart => exact ⟨0, L, by omega, rfl, HF.out, ⟨fun _ _ => rfl, fun j hj => by omega⟩, HO.out, hgo, Kp.refl _ _ _⟩
  case round => as_aux_lemma =>
    clear HF HO hgo
    obtain ⟨kk, L', hk, rfl, hf, hm, ho, hgo, hB⟩ := hrel
    by_cases hlt : kk < n
    · have i1 : (kk : Int) < (n : Int) := by omega
      have i0 : (0 : Int) ≤ (kk : Int) := by omega
      have d0 : decide ((kk : Int) < (n : Int)) = true := decide_eq_true i1
      have d0' : decide (kk < n) = true := decide_eq_true hlt
      have HF1 := Lib.hid hf
      have HM1 := Lib.hid hm
      have HO1 := Lib.hid ho
      have HB1 := Lib.hid hB
      clear hf hm ho hB
      go_wp2_with fail
      go_loopw [4] (fun i wx => ∃ (ii : Nat) (L2 : Nat → List Idt) (l0 : List Idt), ii ≤ (L kk).length ∧ i = .int .i64 ii ∧ FamIdents base (go :: ext) n wx V (fun _ => nilS) L2 (fun _ => []) ∧ (∀ j, j < n → (L2 j).length = (L j).length) ∧ (∀ j, j < kk → L2 j = mkd mkId j (L j).length) ∧ l0.length = (L kk).length ∧ L2 kk = mkd mkId kk ii ++ l0.drop ii ∧ (∀ j, j < n → wx.cell? ⟨go, oo + j, none⟩ = some (V j)) ∧ go < wx.heap.size ∧ Kp base ext w wx) (fun i _ => (L kk).length - (intOf i).toNat)
      case atStart => exact ⟨0, L', L' kk, by omega, rfl, HF1.out, HM1.out.1, HM1.out.2, HM1.out.1 kk hlt, by rw [mkd_zero]; rfl, HO1.out, hgo, HB1.out⟩
      case round => as_aux_lemma =>
        clear HF1 HM1 HO1 HB1 hgo
        obtain ⟨ii, L2, l0, hi, rfl, hf, hln, hmk, hl0, hcur, ho, hgo, hB⟩ := hrel
        obtain ⟨A, cv, hV⟩ := (hf.v kk hlt).len
        rw [hln kk hlt] at hV
        have co0 : wr.cell? ⟨go, oo + kk, none⟩ = some (.slice A (L kk).length cv) := by rw [ho kk hlt, hV]
        have j0 : (0 : Int) ≤ (ii : Int) := by omega
        have HF2 := Lib.hid hf
        have HO2 := Lib.hid ho
        have HB2 := Lib.hid hB
        have HLN := Lib.hid hln
        have HMK := Lib.hid hmk
        have HCU := Lib.hid hcur
        have HL0 := Lib.hid hl0
        have HV := Lib.hid hV
        have hll := HL.out kk hlt
        clear ho hB hln hmk hl0 hV
        by_cases hil : ii < (L kk).length
        · have j1 : (ii : Int) < ((L kk).length : Int) := by omega
          have e0 : decide ((ii : Int) < ((L kk).length : Int)) = true := decide_eq_true j1
          have e0' : decide (ii < (L kk).length) = true := decide_eq_true hil
          obtain ⟨g, cap, hpl, hg1, hg2, hfr, hbk, hown⟩ := (hf.v kk hlt).place (by intro h0; have := HLN.out kk hlt; rw [h0] at this; simp at this; omega)
          have hpl2 := HV.out.symm.trans hpl
          simp only [Value.slice.injEq] at hpl2
          obtain ⟨rfl, -, rfl⟩ := hpl2
          obtain ⟨x, hx⟩ : ∃ x, (L2 kk)[ii]? = some x := ⟨_, List.getElem?_eq_getElem (by rw [HLN.out kk hlt]; exact hil)⟩
          rw [hpl] at hown
          have HBK := Lib.hid hbk
          have HCO : Hid (∀ j u, (idRow x)[j]? = some u → wr.cell? ⟨g, ii * 3 + j, none⟩ = some u) := fun j u hu => by
            obtain ⟨b2, off2, cap2, e2, -, -, -, hc2⟩ := (hown.sl idRow_length).cellAt (by intro h0; rw [h0] at hx; simp at hx)
            simp only [Value.slice.injEq, Option.some.injEq, Addr.mk.injEq, and_true] at e2
            obtain ⟨⟨rfl, rfl⟩, -⟩ := e2
            simpa using hc2 ii x hx j u hu
          have hgg : g ≠ go := fun he => hf.out kk hlt g (.inl HBK.out) (by rw [he]; simp)
          have hgx : g ∉ ext := fun h => hf.out kk hlt g (.inl HBK.out) (List.mem_cons_of_mem _ h)
          have HP := Lib.hid hpl
          have HFZ := Lib.hid hfr
          have HX2 := Lib.hid hx
          have HOW := Lib.hid hown
          have HKS : Hid (∀ wm, Below wr.heap.size wr wm → wm.cell? ⟨go, oo + kk, none⟩ = some (.slice (some ⟨g, 0, none⟩) (L kk).length cv)) := fun wm hb => (hb.cell (p := ⟨go, oo + kk, none⟩) hgo).trans co0
          have hbw : base ≤ wr.heap.size := Nat.le_trans hbase HB2.out.low.size
          clear hf hx hown hpl hfr hcur hbk
          go_upto_region 7 with fail
          first | go_region_held3 (fun w' => w'.cell? ⟨go, oo + kk, none⟩ = some (.slice (some ⟨g, 0, none⟩) (L kk).length cv))
            (first | exact hs2 | exact HKS.out _ hbm | exact HKS.out _ (Below.refl _ _).drew | fail)
            (first | (go_at_call 28; (with_reducible refine (markIdentAny kk ii _ (by omega) (by omega) (by omega) (by omega)).mono ?_); rintro e wm ⟨rfl, hb0⟩; have hbm : Below wr.heap.size wr wm := below_call (Below.refl _ _).drew hb0; have c0 : wm.cell? ⟨g, ii * 3, none⟩ = some (.int .i64 x.idx) := (hbm.cell (p := ⟨g, ii * 3, none⟩) hg2).trans (HCO.out 0 _ rfl); have c1 : wm.cell? ⟨g, ii * 3 + 1, none⟩ = some (.int .i64 x.trm) := (hbm.cell (p := ⟨g, ii * 3 + 1, none⟩) hg2).trans (HCO.out 1 _ rfl); have c2 : wm.cell? ⟨g, ii * 3 + 2, none⟩ = some (.int .i64 x.knd) := (hbm.cell (p := ⟨g, ii * 3 + 2, none⟩) hg2).trans (HCO.out 2 _ rfl); have fz : ∀ o, wm.frozen? ⟨g, o, none⟩ = false := fun o => (World.frozen?_of_block (a := ⟨g, o, none⟩) (hbm.block g hg2)).trans (HFZ.out o); have hs2 : (((wm.setCell ⟨g, ii * 3, none⟩ (.int .i64 (mkI (kk : Int) (ii : Int)))).setCell ⟨g, ii * 3 + 1, none⟩ (.int .i64 0)).setCell ⟨g, ii * 3 + 2, none⟩ (.int .i64 0)).cell? ⟨go, oo + kk, none⟩ = some (.slice (some ⟨g, 0, none⟩) (L kk).length cv) := (World.cell?_of_block (a := ⟨go, oo + kk, none⟩) ((Below.heap_setCell ((wm.setCell ⟨g, ii * 3, none⟩ (.int .i64 (mkI (kk : Int) (ii : Int)))).setCell ⟨g, ii * 3 + 1, none⟩ (.int .i64 0)) ⟨g, ii * 3 + 2, none⟩ _ go (fun he => hgg he.symm)).trans ((Below.heap_setCell (wm.setCell ⟨g, ii * 3, none⟩ (.int .i64 (mkI (kk : Int) (ii : Int)))) ⟨g, ii * 3 + 1, none⟩ _ go (fun he => hgg he.symm)).trans (Below.heap_setCell wm ⟨g, ii * 3, none⟩ _ go (fun he => hgg he.symm))))).trans (HKS.out _ hbm)))
          have hgl : go < wm.heap.size := Nat.lt_of_lt_of_le hgo hbm.size
          have W3 := Lib.hid (show FamIdents base (go :: ext) n (((wm.setCell ⟨g, ii * 3, none⟩ (.int .i64 (mkI (kk : Int) (ii : Int)))).setCell ⟨g, ii * 3 + 1, none⟩ (.int .i64 0)).setCell ⟨g, ii * 3 + 2, none⟩ (.int .i64 0)) V (fun _ => nilS) (upd L2 kk ((L2 kk).set ii (mkId kk ii))) (fun _ => []) from
            (HF2.out.later hbm).write hlt (x0 := g) HBK.out (by rw [HP.out]; exact (HOW.out.later hbm).writeRowIdents (y := mkId kk ii) HX2.out) (fun b hb => ((Below.heap_setCell ((wm.setCell ⟨g, ii * 3, none⟩ (.int .i64 (mkI (kk : Int) (ii : Int)))).setCell ⟨g, ii * 3 + 1, none⟩ (.int .i64 0)) ⟨g, ii * 3 + 2, none⟩ _ b hb).trans ((Below.heap_setCell (wm.setCell ⟨g, ii * 3, none⟩ (.int .i64 (mkI (kk : Int) (ii : Int)))) ⟨g, ii * 3 + 1, none⟩ _ b hb).trans (Below.heap_setCell wm ⟨g, ii * 3, none⟩ _ b hb)))))
          have HOC : Hid (∀ j, j < n → (((wm.setCell ⟨g, ii * 3, none⟩ (.int .i64 (mkI (kk : Int) (ii : Int)))).setCell ⟨g, ii * 3 + 1, none⟩ (.int .i64 0)).setCell ⟨g, ii * 3 + 2, none⟩ (.int .i64 0)).cell? ⟨go, oo + j, none⟩ = some (V j)) := fun j hj =>
            (World.cell?_of_block (a := ⟨go, oo + j, none⟩) ((Below.heap_setCell ((wm.setCell ⟨g, ii * 3, none⟩ (.int .i64 (mkI (kk : Int) (ii : Int)))).setCell ⟨g, ii * 3 + 1, none⟩ (.int .i64 0)) ⟨g, ii * 3 + 2, none⟩ _ go (fun he => hgg he.symm)).trans ((Below.heap_setCell (wm.setCell ⟨g, ii * 3, none⟩ (.int .i64 (mkI (kk : Int) (ii : Int)))) ⟨g, ii * 3 + 1, none⟩ _ go (fun he => hgg he.symm)).trans (Below.heap_setCell wm ⟨g, ii * 3, none⟩ _ go (fun he => hgg he.symm))))).trans ((hbm.cell (p := ⟨go, oo + j, none⟩) hgo).trans (HO2.out j hj))
          have HBC := Lib.hid ((((HB2.out.later hbm hbw).set_ (i := ii * 3) (u := .int .i64 (mkI (kk : Int) (ii : Int))) hg1 hgx).set_ (i := ii * 3 + 1) (u := .int .i64 0) hg1 hgx).set_ (i := ii * 3 + 2) (u := .int .i64 0) hg1 hgx)
          clear hs2 c0 c1 c2 fz
          clear co0 hg1 hg2 hgg
          go_wp2_with fail
          go_roundw
          case rel =>
            refine ⟨ii + 1, upd L2 kk ((L2 kk).set ii (mkId kk ii)), l0, by omega, by go_num, W3.out, fun j hj => ?_, fun j hj => ?_, HL0.out, ?_, HOC.out, by simpa using hgl, HBC.out⟩
            · by_cases hjk : j = kk
              · subst hjk; rw [upd_same, List.length_set]; exact HLN.out j hj
              · rw [upd_other _ _ hjk]; exact HLN.out j hj
            · rw [upd_other _ _ (by omega)]; exact HMK.out j hj
            · rw [upd_same, HCU.out]; exact mkd_set (by rw [HL0.out]; omega)
          case measure => simp [intOf]; omega
        · have e0 : decide ((ii : Int) < ((L kk).length : Int)) = false := decide_eq_false (by omega)
          have e0' : decide (ii < (L kk).length) = false := decide_eq_false hil
          have hii : ii = (L kk).length := by omega
          have HMD := Lib.hid (show MarkedC mkId (kk + 1) n L L2 from ⟨HLN.out, fun j hj => by
            by_cases hjk : j = kk
            · subst hjk; rw [HCU.out, hii, List.drop_of_length_le (by rw [HL0.out]; omega), List.append_nil]
            · exact HMK.out j (by omega)⟩)
          clear hf hcur hii
          go_wp2_with fail
          go_roundw
          case rel => exact ⟨kk + 1, L2, by omega, by go_num, HF2.out, HMD.out, HO2.out, hgo, HB2.out⟩
          case measure => simp [intOf]; omega
    · have d0 : decide ((kk : Int) < (n : Int)) = false := decide_eq_false (by omega)
      have d0' : decide (kk < n) = false := decide_eq_false hlt
      have hkn : kk = n := by omega
      have HLL := Lib.hid hm.1
      have HMK := Lib.hid (show ∀ j, j < n → L' j = mkd mkId j (L j).length by rw [← hkn]; exact hm.2)
      have HF1 := Lib.hid hf
      have HO1 := Lib.hid ho
      have HB1 := Lib.hid hB
      clear hf ho hB hm hkn hk hlt
      obtain ⟨w1, hw1⟩ : ∃ w1, w1 = wr := ⟨_, rfl⟩
      rw [← hw1] at HF1 HO1 HB1 hgo
      rw [← hw1]
      clear hw1
      have hsz1 := HB1.out.low.size
      go_wp2_with (at_make; refine wpList_make_nils _ rfl _ _ 46 rfl w1.heap.size 22 Tryz.underlying46 nilInfoIdents _ _ n rfl rfl rfl rfl (by omega) (Nat.le_refl _) ?_; intro w2 hown2 hb2 hz2)
      have HF2 := Lib.hid ((HF1.out.more (Nat.le_refl _)).later hb2)
      have HG2 := Lib.hid (hown2.less (Nat.le_trans hbase hsz1))
      have HO2 : Hid (∀ j, j < n → w2.cell? ⟨go, oo + j, none⟩ = some (V j)) := fun j hj => (hb2.cell (p := ⟨go, oo + j, none⟩) hgo).trans (HO1.out j hj)
      have HB2 := Lib.hid (HB1.out.later hb2 (Nat.le_trans hbase hsz1))
      have hgo2 : go < w2.heap.size := by omega
      have hgne : w1.heap.size ≠ go := by omega
      have hgb : base ≤ w1.heap.size := Nat.le_trans hbase hsz1
      have hggx : w1.heap.size ∉ ext := fun h => by have := HEX.out _ h; omega
      obtain ⟨gg, hgg⟩ : ∃ g, g = w1.heap.size := ⟨_, rfl⟩
      rw [← hgg] at HF2 HG2 hz2 hgne hgb hggx
      rw [← hgg]
      clear hown2 hb2 HF1 HO1 HB1 hgo hsz1 hgg
      go_wp2_with fail
      go_loopw [6] (fun i wr => ∃ (kk : Nat) (G : Nat → Value) (M : Nat → List Idt) (gl : List Value), kk ≤ n ∧ i = .int .i64 kk ∧ FamIdents base (gg :: go :: ext) n wr V G L' M ∧ (∀ j, j < kk → M j = mkd mkId j ((L j).length + 64)) ∧ Own 1 vRow 22 base wr (.slice (some ⟨gg, 0, none⟩) n n) gl ∧ gl.length = n ∧ (∀ j, j < n → gl[j]? = some (G j)) ∧ (∀ j, j < n → wr.cell? ⟨go, oo + j, none⟩ = some (V j)) ∧ go < wr.heap.size ∧ gg < wr.heap.size ∧ Kp base ext w wr) (fun i _ => n - (intOf i).toNat)
      case atStart => exact ⟨0, fun _ => nilS, fun _ => [], List.replicate n nilS, by omega, rfl, HF2.out, fun j hj => by omega, HG2.out, by simp, fun j hj => by simp [hj, List.getElem?_replicate], HO2.out, hgo2, hz2, HB2.out⟩
      case round => as_aux_lemma =>
        clear HF2 HG2 HO2 HB2 hgo2 hz2
        obtain ⟨kk, G, M, gl, hk, rfl, hf, hmd, hg, hgl, hgi, ho, hgo, hgg, hB⟩ := hrel
        by_cases hlt : kk < n
        · have i1 : (kk : Int) < (n : Int) := by omega
          have i0 : (0 : Int) ≤ (kk : Int) := by omega
          have d0 : decide ((kk : Int) < (n : Int)) = true := decide_eq_true i1
          have d0' : decide (kk < n) = true := decide_eq_true hlt
          obtain ⟨A, cv, hV⟩ := (hf.v kk hlt).len
          rw [HLL.out kk hlt] at hV
          have HV := Lib.hid hV
          have co0 : wr.cell? ⟨go, oo + kk, none⟩ = some (.slice A (L kk).length cv) := by rw [ho kk hlt, hV]
          have HF3 := Lib.hid (hf.same hlt)
          have HG3 := Lib.hid hg
          have HO3 := Lib.hid ho
          have HB3 := Lib.hid hB
          have HMD := Lib.hid hmd
          have HGI := Lib.hid hgi
          have HGL := Lib.hid hgl
          have hll := HL.out kk hlt
          clear hf hg ho hB hmd hgi hV hgl
          go_wp2_with fail
          go_loopw [7, 8] (fun o i wx => ∃ (ii : Nat) (v : Value) (M' : List Idt), ii ≤ 64 ∧ i = .int .i64 ii ∧ o = v ∧ FamIdents base (gg :: go :: ext) n wx V (upd G kk v) L' (upd M kk M') ∧ M' = mkd mkId kk ((L kk).length + ii) ∧ Own 1 vRow 22 base wx (.slice (some ⟨gg, 0, none⟩) n n) gl ∧ (∀ j, j < n → wx.cell? ⟨go, oo + j, none⟩ = some (V j)) ∧ go < wx.heap.size ∧ gg < wx.heap.size ∧ Kp base ext w wx) (fun _ i _ => 64 - (intOf i).toNat)
          case atStart => exact ⟨0, V kk, L' kk, by omega, rfl, HV.out.symm, HF3.out, HMK.out kk hlt, HG3.out, HO3.out, hgo, hgg, HB3.out⟩
          case round => as_aux_lemma =>
            clear HF3 HG3 HO3 HB3 co0 hgo hgg
            obtain ⟨ii, v, M', hi, rfl, rfl, hf, hM', hg, ho, hgo, hgg, hB⟩ := hrel
            have hown := hf.g kk hlt
            rw [upd_same, upd_same] at hown
            have hlen : M'.length = (L kk).length + ii := by rw [hM', mkd_length]
            have co0 : wr.cell? ⟨go, oo + kk, none⟩ = some (.slice A (L kk).length cv) := by rw [ho kk hlt, HV.out]
            have HF3 := Lib.hid hf
            have HG3 := Lib.hid hg
            have HO3 := Lib.hid ho
            have HB3 := Lib.hid hB
            have HW3 := Lib.hid hown
            have HM3 := Lib.hid hM'
            have HLN := Lib.hid hlen
            have hle : M'.length ≤ 1000000 := by omega
            have hz3 := hB.low.size
            have hbz : base ≤ wr.heap.size := by omega
            clear hf hg ho hB hown hM' hlen
            by_cases hil : ii < 64
            · have j1 : (ii : Int) < 64 := by omega
              have j0 : (0 : Int) ≤ (ii : Int) := by omega
              have e0 : decide ((ii : Int) < 64) = true := decide_eq_true j1
              go_wp2_with (first
                | (go_at_call 28; (with_reducible refine (markIdentAny kk (((L kk).length : Int) + (ii : Int)) _ (by omega) (by omega) (by omega) (by omega)).mono ?_); rintro e wm ⟨rfl, hbm⟩; replace HF3 := Lib.hid (HF3.out.later hbm); replace HG3 := Lib.hid (HG3.out.later hbm); replace HO3 : Hid (∀ j, j < n → wm.cell? ⟨go, oo + j, none⟩ = some (V j)) := (fun j hj => (hbm.cell (p := ⟨go, oo + j, none⟩) hgo).trans (HO3.out j hj)); replace HB3 := Lib.hid (HB3.out.later hbm hbz); replace HW3 := Lib.hid (HW3.out.stay (w' := wm) (fun x hx => hbm.block x (HW3.out.block hx).2)); have hgo := Nat.lt_of_lt_of_le hgo hbm.size; have hgg := Nat.lt_of_lt_of_le hgg hbm.size; have hbz := Nat.le_trans hbz hbm.size; have hzm := hbm.size; clear hbm)
                | (at_builtin; refine wpList_append_keepC1 _ rfl (.tmp 57) (.tmp 67) 22 rfl base 42 _ 3 24 Tryz.underlying22 identInfo rfl (Nat.succ_pos 2) idRow idRow_length idRow_one M' _ rfl HW3.out (⟨mkI (kk : Int) (((L kk).length : Int) + (ii : Int)), 0, 0⟩ : Idt) _ rfl 42 _ rfl rfl (by omega) (by omega) hbz ?_; intro g7 c7 w7 p1 p2 p3 p4 p5 p6 p7 p8))
              have HP1 := Lib.hid p1
              have HP2 := Lib.hid p2
              have HP3 := Lib.hid p3
              have HP4 := Lib.hid p4
              have HP5 := Lib.hid p5
              have HP8 := Lib.hid p8
              have hz7 := p7
              clear p1 p2 p3 p4 p5 p6 p7 p8
              go_roundw
              case rel =>
                have hM4 : M' ++ [(⟨mkI (kk : Int) (((L kk).length : Int) + (ii : Int)), 0, 0⟩ : Idt)] = mkd mkId kk ((L kk).length + (ii + 1)) := by
                  rw [HM3.out, ← Nat.add_assoc, mkd_succ]; unfold mkId; rw [Int.natCast_add]
                have hf4 := HF3.out.grow (Nat.succ_pos 2) idRow_length hlt (v' := .slice (some ⟨g7, 0, none⟩) (M'.length + 1) c7) (l2 := [(⟨mkI (kk : Int) (((L kk).length : Int) + (ii : Int)), 0, 0⟩ : Idt)]) (w' := w7)
                  (by rw [upd_same]; exact HP1.out) (by rw [upd_same, upd_same]; exact HP2.out) (by rw [upd_same]; exact HP4.out)
                  (by rw [upd_same]; intro x hx; have hx' : g7 = x := Option.some.inj (blkH_own hx); subst hx'; exact HP5.out.imp id fun h => by omega)
                  (by intro x hx; exact (List.mem_cons.1 hx).elim (fun h => by rw [h]; omega) (fun hx => (List.mem_cons.1 hx).elim (fun h => by rw [h]; omega) (fun hx => by have := HEX.out x hx; omega)))
                  (by intro x _ _; rw [upd_same]; obtain ⟨r, hr⟩ := mkd_begin mkId kk (L kk).length ii; exact ⟨r, by rw [HM3.out, HMK.out kk hlt]; exact hr⟩) (by rw [upd_same, upd_same]; exact HP8.out)
                rw [upd_upd, upd_upd, upd_same, hM4] at hf4
                have hout : ∀ p, p ∈ (gg :: go :: ext) → p < wm.heap.size → w7.heap[p]? = wm.heap[p]? := fun p hp hps => HP4.out p hps (fun he => HF3.out.out kk hlt p (.inr (by rw [upd_same]; exact he.symm)) hp)
                exact ⟨ii + 1, .slice (some ⟨g7, 0, none⟩) (M'.length + 1) c7, _, by omega, by go_num, rfl, hf4, rfl, HG3.out.stay (fun x hx => by have hx' : gg = x := Option.some.inj hx; subst hx'; exact hout _ (by simp) hgg), fun j hj => (World.cell?_of_block (a := ⟨go, oo + j, none⟩) (hout go (by simp) hgo)).trans (HO3.out j hj), by omega, by omega, HB3.out.grow HP3.out HP4.out (fun p hp he => HF3.out.out kk hlt p (.inr (by rw [upd_same]; exact he.symm)) (List.mem_cons_of_mem _ (List.mem_cons_of_mem _ hp)))⟩
              case measure => simp [intOf]; omega
            · have e0 : decide ((ii : Int) < 64) = false := decide_eq_false (by omega)
              have hii : ii = 64 := by omega
              obtain ⟨A2, c2, hv⟩ := HW3.out.len
              have HV2 := Lib.hid hv
              have hgp := HG3.out.place (by intro h0; have := HGL.out; rw [h0] at this; simp at this; omega)
              obtain ⟨g', cap', hpl, -, -, hfr⟩ := hgp
              have hg' : g' = gg := by simp only [Value.slice.injEq, Option.some.injEq, Addr.mk.injEq, and_true] at hpl; exact hpl.1.symm
              rw [hg'] at hfr
              have fz : wr.frozen? ⟨gg, kk, none⟩ = false := hfr kk
              have HWR := Lib.hid (HG3.out.write vRow_length (i := kk) (j := 0) (x := G kk) (y := .slice A2 M'.length c2) (u := .slice A2 M'.length c2) (HGI.out kk hlt) rfl (by omega))
              have cold : wr.cell? ⟨gg, kk, none⟩ = some (G kk) := by
                obtain ⟨b2, off2, cap2, e2, -, -, -, hc2⟩ := (HG3.out.sl vRow_length).cellAt (by intro h0; have := HGL.out; rw [h0] at this; simp at this; omega)
                simp only [Value.slice.injEq, Option.some.injEq, Addr.mk.injEq, and_true] at e2
                obtain ⟨⟨rfl, rfl⟩, -⟩ := e2
                simpa using hc2 kk (G kk) (HGI.out kk hlt) 0 _ rfl
              rw [hv]
              clear hv hpl hg' hfr
              go_wp2_with fail
              go_roundw
              case rel =>
                have hM5 : M' = mkd mkId kk ((L kk).length + 64) := by rw [HM3.out, hii]
                have hgo' : gg ≠ go := fun he => hgne he
                refine ⟨kk + 1, upd G kk (.slice A2 M'.length c2), upd M kk M', gl.set kk (.slice A2 M'.length c2), by omega, by go_num, ?_, fun j hj => ?_, ?_, by rw [List.length_set]; exact HGL.out, fun j hj => ?_, fun j hj => ?_, by simpa using hgo, by simpa using hgg, ?_⟩
                · have h5 := HF3.out
                  rw [HV2.out] at h5
                  exact h5.set_out (by simp) _
                · by_cases hjk : j = kk
                  · subst hjk; rw [upd_same]; exact hM5
                  · rw [upd_other _ _ hjk]; exact HMD.out j (by omega)
                · have := HWR.out; rw [Nat.mul_one, Nat.add_zero] at this; exact this
                · by_cases hjk : j = kk
                  · subst hjk; rw [upd_same, List.getElem?_set_self (by rw [HGL.out]; exact hj)]
                  · rw [upd_other _ _ hjk, List.getElem?_set_ne (by omega)]; exact HGI.out j hj
                · exact (World.cell?_of_block (a := ⟨go, oo + j, none⟩) (Below.heap_setCell wr ⟨gg, kk, none⟩ _ go (fun he => hgo' he.symm))).trans (HO3.out j hj)
                · exact HB3.out.set_ hgb hggx
              case measure => simp [intOf]; omega
        · have d0 : decide ((kk : Int) < (n : Int)) = false := decide_eq_false (by omega)
          have d0' : decide (kk < n) = false := decide_eq_false hlt
          have hkn : kk = n := by omega
          have HMD := Lib.hid (show ∀ j, j < n → M j = mkd mkId j ((L j).length + 64) by rw [← hkn]; exact hmd)
          have HF3 := Lib.hid hf
          have HG3 := Lib.hid hg
          have HO3 := Lib.hid ho
          have HB3 := Lib.hid hB
          have HGI := Lib.hid hgi
          have HGL := Lib.hid hgl
          clear hf hg ho hB hmd hgi hgl hkn hk hlt
          go_wp2_with fail
          obtain ⟨w3, hw3⟩ : ∃ w3, w3 = wr := ⟨_, rfl⟩
          rw [← hw3] at HF3 HG3 HO3 HB3 hgo hgg
          rw [← hw3]
          clear hw3
          have HGC : Hid (∀ j, j < n → w3.cell? ⟨gg, j, none⟩ = some (G j)) := fun j hj => by
            obtain ⟨b2, off2, cap2, e2, -, -, -, hc2⟩ := (HG3.out.sl vRow_length).cellAt (by intro h0; have := HGL.out; rw [h0] at this; simp at this; omega)
            simp only [Value.slice.injEq, Option.some.injEq, Addr.mk.injEq, and_true] at e2
            obtain ⟨⟨rfl, rfl⟩, -⟩ := e2
            simpa using hc2 j (G j) (HGI.out j hj) 0 _ rfl
          go_loopw [9] (fun i wr => ∃ kk : Nat, kk ≤ n ∧ i = .int .i64 kk ∧ Below w3.heap.size w3 wr) (fun i _ => n - (intOf i).toNat)
          case atStart => exact ⟨0, by omega, rfl, Below.refl _ _⟩
          case round => as_aux_lemma =>
            obtain ⟨kk, hk, rfl, hB⟩ := hrel
            by_cases hlt : kk < n
            · have i1 : (kk : Int) < (n : Int) := by omega
              have i0 : (0 : Int) ≤ (kk : Int) := by omega
              have d0 : decide ((kk : Int) < (n : Int)) = true := decide_eq_true i1
              have d0' : decide (kk < n) = true := decide_eq_true hlt
              obtain ⟨Av, cv, hV⟩ := (HF3.out.v kk hlt).len
              rw [HLL.out kk hlt] at hV
              obtain ⟨gb, cg, hG, hgb1, hgb2, -, -, hGo⟩ := (HF3.out.g kk hlt).place (by rw [HMD.out kk hlt]; intro h0; have := congrArg List.length h0; rw [mkd_length] at this; simp at this)
              rw [HMD.out kk hlt, mkd_length] at hG
              have hll := HL.out kk hlt
              have HGr := Lib.hid hGo
              have HVr := Lib.hid (HF3.out.v kk hlt)
              clear hGo
              have HC1 : Hid (∀ i, i < (L kk).length + 64 → ∀ j u, (idRow (mkId kk i))[j]? = some u → w3.cell? ⟨gb, i * 3 + j, none⟩ = some u) := fun i hi j u hu => by
                have h1 := HGr.out
                rw [hG, HMD.out kk hlt] at h1
                have h2 := h1.cells (g := gb) rfl (i * 3 + j) u (flat_at idRow_length _ i _ (mkd_at (mk := mkId) (j := kk) hi) j u hu)
                rw [Addr.add_lit, Nat.zero_add] at h2
                exact h2
              have HC2 : Hid (∀ i, i < (L kk).length → ∃ gv, Av = some ⟨gv, 0, none⟩ ∧ gv < w3.heap.size ∧ ∀ j u, (idRow (mkId kk i))[j]? = some u → w3.cell? ⟨gv, i * 3 + j, none⟩ = some u) := fun i hi => by
                have h0 := HVr.out
                obtain ⟨gv, cv', hpl, _, hlt', _, _, h1⟩ := h0.place (by rw [HMK.out kk hlt]; intro h0; have := congrArg List.length h0; rw [mkd_length, List.length_nil] at this; omega)
                rw [hpl, HMK.out kk hlt] at h1
                have e := hV.symm.trans hpl
                simp only [Value.slice.injEq] at e
                refine ⟨gv, e.1, hlt', fun j u hu => ?_⟩
                have h2 := h1.cells (g := gv) rfl (i * 3 + j) u (flat_at idRow_length _ i _ (mkd_at (mk := mkId) (j := kk) hi) j u hu)
                rw [Addr.add_lit, Nat.zero_add] at h2
                exact h2
              have HBk := Lib.hid hB
              have cg0 : wr.cell? ⟨gg, kk, none⟩ = some (.slice (some ⟨gb, 0, none⟩) ((L kk).length + 64) cg) := (hB.cell (p := ⟨gg, kk, none⟩) hgg).trans ((HGC.out kk hlt).trans (by rw [hG]))
              have HGV := Lib.hid ((HGC.out kk hlt).trans (congrArg some hG))
              have HVV := Lib.hid ((HO3.out kk hlt).trans (congrArg some hV))
              clear hV hG hB
              go_wp2_with fail
              go_loopw [10] (fun i wx => ∃ ii : Nat, ii ≤ (L kk).length + 64 ∧ i = .int .i64 ii ∧ Below w3.heap.size w3 wx) (fun i _ => (L kk).length + 64 - (intOf i).toNat)
              case atStart => exact ⟨0, by omega, rfl, HBk.out⟩
              case round => as_aux_lemma =>
                clear HBk cg0
                obtain ⟨ii, hi, rfl, hB⟩ := hrel
                have HBi := Lib.hid hB
                have HX : Hid (∀ (zw : Ext wr) (b o : Nat), b < w3.heap.size → zw.wd.cell? ⟨b, o, none⟩ = w3.cell? ⟨b, o, none⟩) := fun zw b o hb => (hB.trans (zw.low.mono hB.size)).cell (p := ⟨b, o, none⟩) hb
                have cg0 : wr.cell? ⟨gg, kk, none⟩ = some (.slice (some ⟨gb, 0, none⟩) ((L kk).length + 64) cg) := (hB.cell (p := ⟨gg, kk, none⟩) hgg).trans HGV.out
                have j0 : (0 : Int) ≤ (ii : Int) := by omega
                by_cases hil : ii < (L kk).length + 64
                · have j1 : (ii : Int) < ((L kk).length : Int) + 64 := by omega
                  have e0 : decide ((ii : Int) < ((L kk).length : Int) + 64) = true := decide_eq_true j1
                  have e0' : decide (ii < (L kk).length + 64) = true := decide_eq_true hil
                  have k1 : ∀ zw : Ext wr, zw.wd.cell? ⟨gg, kk, none⟩ = some (.slice (some ⟨gb, 0, none⟩) ((L kk).length + 64) cg) := fun zw => (HX.out zw _ _ hgg).trans HGV.out
                  have k2_0 : ∀ zw : Ext wr, zw.wd.cell? ⟨gb, ii * 3, none⟩ = some (.int .i64 (mkI (kk : Int) (ii : Int))) := fun zw => (HX.out zw _ _ hgb2).trans (HC1.out ii hil 0 _ rfl)
                  have k2_1 : ∀ zw : Ext wr, zw.wd.cell? ⟨gb, ii * 3 + 1, none⟩ = some (.int .i64 0) := fun zw => (HX.out zw _ _ hgb2).trans (HC1.out ii hil 1 _ rfl)
                  have k2_2 : ∀ zw : Ext wr, zw.wd.cell? ⟨gb, ii * 3 + 2, none⟩ = some (.int .i64 0) := fun zw => (HX.out zw _ _ hgb2).trans (HC1.out ii hil 2 _ rfl)
                  have k3 : ∀ zw : Ext wr, zw.wd.cell? ⟨go, oo + kk, none⟩ = some (.slice Av (L kk).length cv) := fun zw => (HX.out zw _ _ hgo).trans HVV.out
                  clear hB
                  by_cases hiv : ii < (L kk).length
                  · obtain ⟨gv, rfl, hgv, hcv⟩ := HC2.out ii hiv
                    have k4_0 : ∀ zw : Ext wr, zw.wd.cell? ⟨gv, ii * 3, none⟩ = some (.int .i64 (mkI (kk : Int) (ii : Int))) := fun zw => (HX.out zw _ _ hgv).trans (hcv 0 _ rfl)
                    have k4_1 : ∀ zw : Ext wr, zw.wd.cell? ⟨gv, ii * 3 + 1, none⟩ = some (.int .i64 0) := fun zw => (HX.out zw _ _ hgv).trans (hcv 1 _ rfl)
                    have k4_2 : ∀ zw : Ext wr, zw.wd.cell? ⟨gv, ii * 3 + 2, none⟩ = some (.int .i64 0) := fun zw => (HX.out zw _ _ hgv).trans (hcv 2 _ rfl)
                    have j2 : (ii : Int) < ((L kk).length : Int) := by omega
                    have e1 : decide ((ii : Int) < ((L kk).length : Int)) = true := decide_eq_true j2
                    have e1' : decide (ii < (L kk).length) = true := decide_eq_true hiv
                    clear hcv hgv
                    obtain ⟨mv, hmv⟩ : ∃ z, z = mkI (kk : Int) (ii : Int) := ⟨_, rfl⟩
                    have CM : Hid (∀ x5 : Ext wr, Calls Tryz.prog 28 #[.int .i64 (kk : Int), .int .i64 (ii : Int)] x5.wd fun e w' => e = .returned (.agg #[.int .i64 mv, .int .i64 0, .int .i64 0]) ∧ Below x5.wd.heap.size x5.wd w') := fun x5 => by rw [hmv]; exact markIdentAny (kk : Int) (ii : Int) x5.wd (by omega) (by omega) (by omega) (by omega)
                    rw [← hmv] at k2_0 k4_0
                    clear hmv
                    as_aux_lemma =>
                      go_upto_region 24 with fail
                      refine wp_region_ext (by kernel_rfl) (by kernel_rfl) ?_
                      repeat (go_big_quiet_step ((rename_i x5; have h5 := x5.low; first
                        | (go_at_call 28; exact ext_of x5 (CM.out x5)))))
                      refine wpQuiet_nil ?_
                      intro _ hw'
                      obtain ⟨x5, hw''⟩ := hw'
                      subst hw''
                      go_wp2_with fail
                      go_roundw
                      case rel => exact ⟨ii + 1, by omega, by go_num, HBi.out.trans (x5.low.mono HBi.out.size)⟩
                      case measure => simp [intOf]; omega
                  · have e1 : decide ((ii : Int) < ((L kk).length : Int)) = false := decide_eq_false (by omega)
                    have e1' : decide (ii < (L kk).length) = false := decide_eq_false hiv
                    obtain ⟨mv, hmv⟩ : ∃ z, z = mkI (kk : Int) (ii : Int) := ⟨_, rfl⟩
                    have CM : Hid (∀ x5 : Ext wr, Calls Tryz.prog 28 #[.int .i64 (kk : Int), .int .i64 (ii : Int)] x5.wd fun e w' => e = .returned (.agg #[.int .i64 mv, .int .i64 0, .int .i64 0]) ∧ Below x5.wd.heap.size x5.wd w') := fun x5 => by rw [hmv]; exact markIdentAny (kk : Int) (ii : Int) x5.wd (by omega) (by omega) (by omega) (by omega)
                    rw [← hmv] at k2_0
                    clear hmv
                    as_aux_lemma =>
                      go_upto_region 24 with fail
                      refine wp_region_ext (by kernel_rfl) (by kernel_rfl) ?_
                      repeat (go_big_quiet_step ((rename_i x5; have h5 := x5.low; first
                        | (go_at_call 28; exact ext_of x5 (CM.out x5)))))
                      refine wpQuiet_nil ?_
                      intro _ hw'
                      obtain ⟨x5, hw''⟩ := hw'
                      subst hw''
                      go_wp2_with fail
                      go_roundw
                      case rel => exact ⟨ii + 1, by omega, by go_num, HBi.out.trans (x5.low.mono HBi.out.size)⟩
                      case measure => simp [intOf]; omega
                · have e0 : decide ((ii : Int) < ((L kk).length : Int) + 64) = false := decide_eq_false (by omega)
                  have e0' : decide (ii < (L kk).length + 64) = false := decide_eq_false hil
                  clear hB
                  go_wp2_with fail
                  go_roundw
                  case rel => exact ⟨kk + 1, by omega, by go_num, HBi.out⟩
                  case measure => simp [intOf]; omega
            · have d0 : decide ((kk : Int) < (n : Int)) = false := decide_eq_false (by omega)
              have d0' : decide (kk < n) = false := decide_eq_false hlt
              go_wp2_with fail
              have HF4 := Lib.hid (HF3.out.later hB)
              have HG4 := Lib.hid (HG3.out.stay (fun x hx => by have hx' : gg = x := Option.some.inj hx; subst hx'; exact hB.block gg hgg))
              have HO4 : Hid (∀ j, j < n → wr.cell? ⟨go, oo + j, none⟩ = some (V j)) := fun j hj => (hB.cell (p := ⟨go, oo + j, none⟩) hgo).trans (HO3.out j hj)
              have HB4 := Lib.hid (HB3.out.later hB (Nat.le_trans hbase HB3.out.low.size))
              have hgo4 : go < wr.heap.size := Nat.lt_of_lt_of_le hgo hB.size
              have hgg4 : gg < wr.heap.size := Nat.lt_of_lt_of_le hgg hB.size
              have HPR : Hid (∀ j, j < n → ∃ r, M j = mkd mkId j (L j).length ++ r) := fun j hj => by rw [HMD.out j hj]; exact mkd_begin mkId j (L j).length 64
              clear hB hk hlt
              go_loopw [11] (fun i wr => ∃ (kk : Nat) (G : Nat → Value) (M : Nat → List Idt) (gl : List Value), kk ≤ n ∧ i = .int .i64 kk ∧ FamIdents base (gg :: go :: ext) n wr V G L' M ∧ (∀ j, j < n → ∃ r, M j = mkd mkId j (L j).length ++ r) ∧ Own 1 vRow 22 base wr (.slice (some ⟨gg, 0, none⟩) n n) gl ∧ gl.length = n ∧ (∀ j, j < n → gl[j]? = some (G j)) ∧ (∀ j, j < n → wr.cell? ⟨go, oo + j, none⟩ = some (V j)) ∧ go < wr.heap.size ∧ gg < wr.heap.size ∧ Kp base ext w wr) (fun i _ => n - (intOf i).toNat)
              case atStart => exact ⟨0, G, M, gl, by omega, rfl, HF4.out, HPR.out, HG4.out, HGL.out, HGI.out, HO4.out, hgo4, hgg4, HB4.out⟩
              case round => as_aux_lemma =>
                clear HF4 HG4 HO4 HB4 hgo4 hgg4 HF3 HG3 HO3 HB3 HGC HPR HMD HGI HGL hgo hgg
                obtain ⟨kk, G, M, gl, hk, rfl, hf, hpr, hg, hgl, hgi, ho, hgo, hgg, hB⟩ := hrel
                have HF4 := Lib.hid hf
                have HG4 := Lib.hid hg
                have HO4 := Lib.hid ho
                have HB4 := Lib.hid hB
                have HPR := Lib.hid hpr
                have HGI := Lib.hid hgi
                have HGL := Lib.hid hgl
                have hz4 := hB.low.size
                clear hf hg ho hB hpr hgi hgl
                by_cases hlt : kk < n
                · have i1 : (kk : Int) < (n : Int) := by omega
                  have i0 : (0 : Int) ≤ (kk : Int) := by omega
                  have d0 : decide ((kk : Int) < (n : Int)) = true := decide_eq_true i1
                  have d0' : decide (kk < n) = true := decide_eq_true hlt
                  obtain ⟨w4, hw4⟩ : ∃ w4, w4 = wr := ⟨_, rfl⟩
                  rw [← hw4] at HF4 HG4 HO4 HB4 hgo hgg hz4
                  rw [← hw4]
                  clear hw4
                  go_wp2_with (at_make; refine wpList_make_idents _ rfl _ _ 22 rfl w4.heap.size 42 Tryz.underlying22 identInfo _ _ 64 rfl rfl rfl rfl (by omega) (Nat.le_refl _) ?_; intro w5 hown5 hb5 hz5)
                  obtain ⟨gm, hgm⟩ : ∃ g, g = w4.heap.size := ⟨_, rfl⟩
                  have HM5 := Lib.hid (show Own 3 idRow 42 w4.heap.size w5 (.slice (some ⟨gm, 0, none⟩) 64 64) (List.replicate 64 (⟨0, 0, 0⟩ : Idt)) by rw [hgm]; exact hown5)
                  have HB5 := Lib.hid hb5
                  rw [← hgm] at hz5
                  rw [← hgm]
                  have hgm' : w4.heap.size ≤ gm := by omega
                  have hz4b : base ≤ w4.heap.size := by omega
                  clear hown5 hb5 hgm
                  go_wp2_with fail
                  go_loopw [13] (fun i wx => ∃ (ii : Nat) (ml : List Idt), ii ≤ 64 ∧ i = .int .i64 ii ∧ Own 3 idRow 42 w4.heap.size wx (.slice (some ⟨gm, 0, none⟩) 64 64) ml ∧ ml.length = 64 ∧ Below w4.heap.size w4 wx) (fun i _ => 64 - (intOf i).toNat)
                  case atStart => exact ⟨0, List.replicate 64 (⟨0, 0, 0⟩ : Idt), by omega, rfl, HM5.out, by simp, HB5.out⟩
                  case round => as_aux_lemma =>
                    clear HM5 HB5 hz5
                    obtain ⟨ii, ml, hi, rfl, hm, hml, hB⟩ := hrel
                    have HM5 := Lib.hid hm
                    have HB5 := Lib.hid hB
                    have HML := Lib.hid hml
                    have hz5 := hB.size
                    clear hB
                    have j0 : (0 : Int) ≤ (ii : Int) := by omega
                    by_cases hil : ii < 64
                    · have j1 : (ii : Int) < 64 := by omega
                      have e0 : decide ((ii : Int) < 64) = true := decide_eq_true j1
                      obtain ⟨x, hx⟩ : ∃ x, ml[ii]? = some x := ⟨_, List.getElem?_eq_getElem (by omega)⟩
                      obtain ⟨g', cap', hpl, -, hgs, hfr⟩ := hm.place (by intro h0; rw [h0] at hml; simp at hml)
                      have hg' : g' = gm := by simp only [Value.slice.injEq, Option.some.injEq, Addr.mk.injEq, and_true] at hpl; exact hpl.1.symm
                      rw [hg'] at hfr hgs
                      have HFZ := Lib.hid hfr
                      have HCO : Hid (∀ j u, (idRow x)[j]? = some u → wr.cell? ⟨gm, ii * 3 + j, none⟩ = some u) := fun j u hu => by
                        obtain ⟨b2, off2, cap2, e2, -, -, -, hc2⟩ := (hm.sl idRow_length).cellAt (by intro h0; rw [h0] at hml; simp at hml)
                        simp only [Value.slice.injEq, Option.some.injEq, Addr.mk.injEq, and_true] at e2
                        obtain ⟨⟨rfl, rfl⟩, -⟩ := e2
                        simpa using hc2 ii x hx j u hu
                      have HX2 := Lib.hid hx
                      have HMO := Lib.hid hm
                      clear hm hml hx hpl hg' hfr
                      go_wp2_with (go_at_call 28; (with_reducible refine (markIdentAny ((kk : Int) + (n : Int)) ii _ (by omega) (by omega) (by omega) (by omega)).mono ?_); rintro e wm ⟨rfl, hbm⟩; have c0 : wm.cell? ⟨gm, ii * 3, none⟩ = some (.int .i64 x.idx) := (hbm.cell (p := ⟨gm, ii * 3, none⟩) hgs).trans (HCO.out 0 _ rfl); have c1 : wm.cell? ⟨gm, ii * 3 + 1, none⟩ = some (.int .i64 x.trm) := (hbm.cell (p := ⟨gm, ii * 3 + 1, none⟩) hgs).trans (HCO.out 1 _ rfl); have c2 : wm.cell? ⟨gm, ii * 3 + 2, none⟩ = some (.int .i64 x.knd) := (hbm.cell (p := ⟨gm, ii * 3 + 2, none⟩) hgs).trans (HCO.out 2 _ rfl); have fz : ∀ o, wm.frozen? ⟨gm, o, none⟩ = false := fun o => (World.frozen?_of_block (a := ⟨gm, o, none⟩) (hbm.block gm hgs)).trans (HFZ.out o))
                      go_roundw
                      case rel => exact ⟨ii + 1, _, by omega, by go_num, (HMO.out.later hbm).writeRowIdents (y := ⟨mkI ((kk : Int) + (n : Int)) (ii : Int), 0, 0⟩) HX2.out, by rw [List.length_set]; exact HML.out, below_set (below_set (below_set (HB5.out.trans (hbm.mono hz5)) hgm') hgm') hgm'⟩
                      case measure => simp [intOf]; omega
                    · have e0 : decide ((ii : Int) < 64) = false := decide_eq_false (by omega)
                      clear hm hml
                      obtain ⟨A, cv, hV⟩ := (HF4.out.v kk hlt).len
                      rw [HLL.out kk hlt] at hV
                      have hFw := HF4.out.later HB5.out
                      have hVo := hFw.v kk hlt
                      rw [hV] at hVo
                      have hgle : L' kk = mkd mkId kk (L kk).length := HMK.out kk hlt
                      have hlen' : (L' kk).length = (L kk).length := HLL.out kk hlt
                      have hll := HL.out kk hlt
                      have hGw := HG4.out.stay (w' := wr) (fun x hx => by have hx' : gg = x := Option.some.inj hx; subst hx'; exact HB5.out.block gg hgg)
                      have hgow : go < wr.heap.size := by omega
                      have hggw : gg < wr.heap.size := by omega
                      have hbw : base ≤ wr.heap.size := by omega
                      have co0 : wr.cell? ⟨go, oo + kk, none⟩ = some (.slice A (L kk).length cv) := ((HB5.out.cell (p := ⟨go, oo + kk, none⟩) hgo).trans (HO4.out kk hlt)).trans (congrArg some hV)
                      obtain ⟨g', cap', hpl, -, -, hfr⟩ := hGw.place (by intro h0; have := HGL.out; rw [h0] at this; simp at this; omega)
                      have hg' : g' = gg := by simp only [Value.slice.injEq, Option.some.injEq, Addr.mk.injEq, and_true] at hpl; exact hpl.1.symm
                      rw [hg'] at hfr
                      have HFZ := Lib.hid (hfr kk)
                      have HCO0 : wr.cell? ⟨gg, kk, none⟩ = some (G kk) := by
                        obtain ⟨b2, off2, cap2, e2, -, -, -, hc2⟩ := (hGw.sl vRow_length).cellAt (by intro h0; have := HGL.out; rw [h0] at this; simp at this; omega)
                        simp only [Value.slice.injEq, Option.some.injEq, Addr.mk.injEq, and_true] at e2
                        obtain ⟨⟨rfl, rfl⟩, -⟩ := e2
                        simpa using hc2 kk (G kk) (HGI.out kk hlt) 0 _ rfl
                      have HCO := Lib.hid HCO0
                      have HNB : Hid (∀ p, p ∈ (gg :: go :: ext) → some p ≠ blkH (Value.slice A (L kk).length cv)) := fun p hp he => hFw.out kk hlt p (.inl (by rw [hV]; exact he.symm)) hp
                      have HFW := Lib.hid hFw
                      have HVO := Lib.hid hVo
                      have HGW := Lib.hid hGw
                      have HVE := Lib.hid hV
                      have HLE := Lib.hid hlen'
                      have HGE := Lib.hid hgle
                      clear HCO0 hFw hVo hGw hV hpl hg' hfr hlen' hgle
                      go_wp2_with (at_builtin; refine wpList_append_keepC _ rfl (.tmp 148) (.tmp 149) 22 rfl base 42 _ 3 24 Tryz.underlying22 identInfo rfl (Nat.succ_pos 2) idRow idRow_length idRow_one (L' kk) _ rfl HVO.out ml ⟨gm, 0, none⟩ 64 (by rw [HML.out]; rfl) (HM5.out.cells (g := gm) rfl) (by rw [HML.out]; omega) (by rw [HML.out, HLE.out]; unfold maxLen; omega) (by rw [HML.out, HLE.out]; omega) hbw ?_; intro g7 c7 w7 p1 p2 p3 p4 p5 p6 p7 p8; have fz7 : w7.frozen? ⟨gg, kk, none⟩ = false := (World.frozen?_of_block (a := ⟨gg, kk, none⟩) (p4 gg hggw (HNB.out gg (by simp)))).trans HFZ.out; have cold7 : w7.cell? ⟨gg, kk, none⟩ = some (G kk) := (World.cell?_of_block (a := ⟨gg, kk, none⟩) (p4 gg hggw (HNB.out gg (by simp)))).trans HCO.out; have hgg7 : gg < w7.heap.size := Nat.lt_of_lt_of_le hggw p7)
                      have HP1 := Lib.hid p1
                      have HP2 := Lib.hid p2
                      have HP3 := Lib.hid p3
                      have HP4 := Lib.hid p4
                      have HP5 := Lib.hid p5
                      clear p1 p2 p3 p4 p5 p6 p8
                      have hz7 := p7
                      have hgg8 := hgg7
                      clear p7
                      go_roundw
                      case rel =>
                        have hout : ∀ p, p ∈ (gg :: go :: ext) → p < wr.heap.size → w7.heap[p]? = wr.heap[p]? := fun p hp hps => HP4.out p hps (HNB.out p hp)
                        have hft := HFW.out.turn hlt (v' := .slice (some ⟨g7, 0, none⟩) ((L' kk).length + ml.length) c7) (l' := L' kk ++ ml) (r := ml) (w' := w7) HP1.out (by rw [HVE.out]; exact HP2.out) (by rw [HVE.out]; exact HP4.out)
                          (by rw [HVE.out]; intro x hx; have hx' : g7 = x := Option.some.inj (blkH_own hx); subst hx'; exact HP5.out.imp id fun h => by omega)
                          (by intro x hx; exact (List.mem_cons.1 hx).elim (fun h => by rw [h]; omega) (fun hx => (List.mem_cons.1 hx).elim (fun h => by rw [h]; omega) (fun hx => by have := HEX.out x hx; omega))) rfl
                        have hgs := (HGW.out.stay (w' := w7) (fun x hx => by have hx' : gg = x := Option.some.inj hx; subst hx'; exact hout _ (by simp) hggw)).write vRow_length (i := kk) (j := 0) (x := G kk) (y := .slice (some ⟨g7, 0, none⟩) ((L' kk).length + ml.length) c7) (u := .slice (some ⟨g7, 0, none⟩) ((L' kk).length + ml.length) c7) (HGI.out kk hlt) rfl (by omega)
                        rw [Nat.mul_one, Nat.add_zero] at hgs
                        refine ⟨kk + 1, upd G kk (.slice (some ⟨g7, 0, none⟩) ((L' kk).length + ml.length) c7), upd M kk (L' kk ++ ml), _, by omega, by go_num, hft.set_out (by simp) _, fun j hj => ?_, hgs, by rw [List.length_set]; exact HGL.out, fun j hj => ?_, fun j hj => ?_, by simp; omega, by simpa using hgg8, ((HB4.out.later HB5.out hz4b).grow HP3.out HP4.out (fun p hp => HNB.out p (List.mem_cons_of_mem _ (List.mem_cons_of_mem _ hp)))).set_ hgb hggx⟩
                        · by_cases hjk : j = kk
                          · subst hjk; rw [upd_same, HGE.out]; exact ⟨ml, rfl⟩
                          · rw [upd_other _ _ hjk]; exact HPR.out j hj
                        · by_cases hjk : j = kk
                          · subst hjk; rw [upd_same, List.getElem?_set_self (by rw [HGL.out]; exact hj)]
                          · rw [upd_other _ _ hjk, List.getElem?_set_ne (by omega)]; exact HGI.out j hj
                        · exact ((World.cell?_of_block (a := ⟨go, oo + j, none⟩) (Below.heap_setCell w7 ⟨gg, kk, none⟩ _ go (fun he => hgne he.symm))).trans (World.cell?_of_block (a := ⟨go, oo + j, none⟩) (hout go (by simp) hgow))).trans ((HB5.out.cell (p := ⟨go, oo + j, none⟩) hgo).trans (HO4.out j hj))
                      case measure => simp [intOf]; omega
                · have d0 : decide ((kk : Int) < (n : Int)) = false := decide_eq_false (by omega)
                  have d0' : decide (kk < n) = false := decide_eq_false hlt
                  clear hk hlt
                  go_wp2_with fail
                  obtain ⟨w9, hw9⟩ : ∃ w9, w9 = wr := ⟨_, rfl⟩
                  rw [← hw9] at HF4 HG4 HO4 HB4 hgo hgg hz4
                  rw [← hw9]
                  clear hw9
                  have hbw : base ≤ w9.heap.size := by omega
                  have HGC : Hid (∀ j, j < n → w9.cell? ⟨gg, j, none⟩ = some (G j)) := fun j hj => by
                    obtain ⟨b2, off2, cap2, e2, -, -, -, hc2⟩ := (HG4.out.sl vRow_length).cellAt (by intro h0; have := HGL.out; rw [h0] at this; simp at this; omega)
                    simp only [Value.slice.injEq, Option.some.injEq, Addr.mk.injEq, and_true] at e2
                    obtain ⟨⟨rfl, rfl⟩, -⟩ := e2
                    simpa using hc2 j (G j) (HGI.out j hj) 0 _ rfl
                  go_loopw [14] (fun i wr => ∃ kk : Nat, kk ≤ n ∧ i = .int .i64 kk ∧ Below w9.heap.size w9 wr) (fun i _ => n - (intOf i).toNat)
                  case atStart => exact ⟨0, by omega, rfl, Below.refl _ _⟩
                  case round => as_aux_lemma =>
                    obtain ⟨kk, hk, rfl, hB⟩ := hrel
                    by_cases hlt : kk < n
                    · have i1 : (kk : Int) < (n : Int) := by omega
                      have i0 : (0 : Int) ≤ (kk : Int) := by omega
                      have d0 : decide ((kk : Int) < (n : Int)) = true := decide_eq_true i1
                      have d0' : decide (kk < n) = true := decide_eq_true hlt
                      obtain ⟨Av, cv, hV⟩ := (HF4.out.v kk hlt).len
                      rw [HLL.out kk hlt] at hV
                      have hll := HL.out kk hlt
                      have HGr := Lib.hid (HF4.out.g kk hlt)
                      have HVr := Lib.hid (HF4.out.v kk hlt)
                      have HVV := Lib.hid ((HO4.out kk hlt).trans (congrArg some hV))
                      have HVE := Lib.hid hV
                      have HBk := Lib.hid hB
                      have co0 : wr.cell? ⟨go, oo + kk, none⟩ = some (.slice Av (L kk).length cv) := (hB.cell (p := ⟨go, oo + kk, none⟩) hgo).trans HVV.out
                      clear hV hB
                      go_wp2_with fail
                      go_loopw [15] (fun i wx => ∃ ii : Nat, ii ≤ (L kk).length ∧ i = .int .i64 ii ∧ Below w9.heap.size w9 wx) (fun i _ => (L kk).length - (intOf i).toNat)
                      case atStart => exact ⟨0, by omega, rfl, HBk.out⟩
                      case round => as_aux_lemma =>
                        clear HBk co0
                        obtain ⟨ii, hi, rfl, hB⟩ := hrel
                        have HBi := Lib.hid hB
                        have HX : Hid (∀ (zw : Ext wr) (b o : Nat), b < w9.heap.size → zw.wd.cell? ⟨b, o, none⟩ = w9.cell? ⟨b, o, none⟩) := fun zw b o hb => (hB.trans (zw.low.mono hB.size)).cell (p := ⟨b, o, none⟩) hb
                        have co0 : wr.cell? ⟨go, oo + kk, none⟩ = some (.slice Av (L kk).length cv) := (hB.cell (p := ⟨go, oo + kk, none⟩) hgo).trans HVV.out
                        have j0 : (0 : Int) ≤ (ii : Int) := by omega
                        by_cases hil : ii < (L kk).length
                        · have j1 : (ii : Int) < ((L kk).length : Int) := by omega
                          have e0 : decide ((ii : Int) < ((L kk).length : Int)) = true := decide_eq_true j1
                          have e0' : decide (ii < (L kk).length) = true := decide_eq_true hil
                          obtain ⟨r, hr⟩ := HPR.out kk hlt
                          have hrl : (L kk).length ≤ (M kk).length := by rw [hr, List.length_append, mkd_length]; omega
                          obtain ⟨gv, cv', hpl, _, hgv, _, _, hvo⟩ := HVr.out.place (by rw [HMK.out kk hlt]; intro h0; have := congrArg List.length h0; rw [mkd_length, List.length_nil] at this; omega)
                          have hva := HVE.out.symm.trans hpl
                          simp only [Value.slice.injEq] at hva
                          obtain ⟨rfl, -, -⟩ := hva
                          obtain ⟨gb, cg, hG, _, hgb2, _, _, hgo2⟩ := HGr.out.place (by intro h0; rw [h0, List.length_nil] at hrl; omega)
                          have hcv : ∀ j u, (idRow (mkId kk ii))[j]? = some u → w9.cell? ⟨gv, ii * 3 + j, none⟩ = some u := fun j u hu => by
                            have h1 := hvo
                            rw [hpl, HMK.out kk hlt] at h1
                            have h2 := h1.cells (g := gv) rfl (ii * 3 + j) u (flat_at idRow_length _ ii _ (mkd_at (mk := mkId) (j := kk) hil) j u hu)
                            rw [Addr.add_lit, Nat.zero_add] at h2
                            exact h2
                          have hcg : ∀ j u, (idRow (mkId kk ii))[j]? = some u → w9.cell? ⟨gb, ii * 3 + j, none⟩ = some u := fun j u hu => by
                            have h1 := hgo2
                            rw [hG] at h1
                            have hat : (M kk)[ii]? = some (mkId kk ii) := by rw [hr, List.getElem?_append_left (by rw [mkd_length]; exact hil)]; exact mkd_at hil
                            have h2 := h1.cells (g := gb) rfl (ii * 3 + j) u (flat_at idRow_length _ ii _ hat j u hu)
                            rw [Addr.add_lit, Nat.zero_add] at h2
                            exact h2
                          have k1 : ∀ zw : Ext wr, zw.wd.cell? ⟨gg, kk, none⟩ = some (.slice (some ⟨gb, 0, none⟩) (M kk).length cg) := fun zw => (HX.out zw _ _ hgg).trans ((HGC.out kk hlt).trans (congrArg some hG))
                          have k2_0 : ∀ zw : Ext wr, zw.wd.cell? ⟨gb, ii * 3, none⟩ = some (.int .i64 (mkI (kk : Int) (ii : Int))) := fun zw => (HX.out zw _ _ hgb2).trans (hcg 0 _ rfl)
                          have k2_1 : ∀ zw : Ext wr, zw.wd.cell? ⟨gb, ii * 3 + 1, none⟩ = some (.int .i64 0) := fun zw => (HX.out zw _ _ hgb2).trans (hcg 1 _ rfl)
                          have k2_2 : ∀ zw : Ext wr, zw.wd.cell? ⟨gb, ii * 3 + 2, none⟩ = some (.int .i64 0) := fun zw => (HX.out zw _ _ hgb2).trans (hcg 2 _ rfl)
                          have k3 : ∀ zw : Ext wr, zw.wd.cell? ⟨go, oo + kk, none⟩ = some (.slice (some ⟨gv, 0, none⟩) (L kk).length cv) := fun zw => (HX.out zw _ _ hgo).trans HVV.out
                          have k4_0 : ∀ zw : Ext wr, zw.wd.cell? ⟨gv, ii * 3, none⟩ = some (.int .i64 (mkI (kk : Int) (ii : Int))) := fun zw => (HX.out zw _ _ hgv).trans (hcv 0 _ rfl)
                          have k4_1 : ∀ zw : Ext wr, zw.wd.cell? ⟨gv, ii * 3 + 1, none⟩ = some (.int .i64 0) := fun zw => (HX.out zw _ _ hgv).trans (hcv 1 _ rfl)
                          have k4_2 : ∀ zw : Ext wr, zw.wd.cell? ⟨gv, ii * 3 + 2, none⟩ = some (.int .i64 0) := fun zw => (HX.out zw _ _ hgv).trans (hcv 2 _ rfl)
                          have j2 : (ii : Int) < ((M kk).length : Int) := by omega
                          clear hB hr hpl hG hcv hcg hrl
                          obtain ⟨mv, hmv⟩ : ∃ z, z = mkI (kk : Int) (ii : Int) := ⟨_, rfl⟩
                          have CM : Hid (∀ x5 : Ext wr, Calls Tryz.prog 28 #[.int .i64 (kk : Int), .int .i64 (ii : Int)] x5.wd fun e w' => e = .returned (.agg #[.int .i64 mv, .int .i64 0, .int .i64 0]) ∧ Below x5.wd.heap.size x5.wd w') := fun x5 => by rw [hmv]; exact markIdentAny (kk : Int) (ii : Int) x5.wd (by omega) (by omega) (by omega) (by omega)
                          rw [← hmv] at k2_0 k4_0
                          clear hmv
                          as_aux_lemma =>
                            go_upto_region 41 with fail
                            refine wp_region_ext (by kernel_rfl) (by kernel_rfl) ?_
                            repeat (go_big_quiet_step ((rename_i x5; have h5 := x5.low; first
                              | (go_at_call 28; exact ext_of x5 (CM.out x5)))))
                            refine wpQuiet_nil ?_
                            intro _ hw'
                            obtain ⟨x5, hw''⟩ := hw'
                            subst hw''
                            go_wp2_with fail
                            go_roundw
                            case rel => exact ⟨ii + 1, by omega, by go_num, HBi.out.trans (x5.low.mono HBi.out.size)⟩
                            case measure => simp [intOf]; omega
                        · have e0 : decide ((ii : Int) < ((L kk).length : Int)) = false := decide_eq_false (by omega)
                          have e0' : decide (ii < (L kk).length) = false := decide_eq_false hil
                          clear hB
                          go_wp2_with fail
                          go_roundw
                          case rel => exact ⟨kk + 1, by omega, by go_num, HBi.out⟩
                          case measure => simp [intOf]; omega
                    · have d0 : decide ((kk : Int) < (n : Int)) = false := decide_eq_false (by omega)
                      have d0' : decide (kk < n) = false := decide_eq_false hlt
                      have HBk := Lib.hid hB
                      clear hB
                      go_wp2_with fail
                      go_ret
                      exact ⟨rfl, HB4.out.later HBk.out hbw, L', (HF4.out.drop.drop_out (fun x hx => List.mem_cons_of_mem _ hx)).later HBk.out, HLL.out⟩
end Go.Proofs.YtglkgmijhdkhpaaGreatDoor
