/-
  slices.SortStableFunc's symMerge at identities, whole; stable: contract.
-/
import Derived.Test.YtglkgmijhdkhpaaDoorHa28
set_option linter.unusedVariables false
set_option linter.unusedSimpArgs false
namespace Go.Proofs.YtglkgmijhdkhpaaDoor
open Go.RowKit


theorem symC_all : ∀ N, SymC N := by
  intro N
  induction N with
  | zero =>
    intro base g n c P S U V a m b w hN h hU hV ht ha hm hb hn hu hv
    omega
  | succ N ih =>
    intro base g n c P S U V a m b w hN h hU hV ht ha hm hb hn hu hv
    by_cases h1 : U.length = 1
    · exact idtSym1 base g n c P S U V a m b w h hU hV ht ha hm hb hn h1 hv
    · by_cases h2 : V.length = 1
      · exact idtSym2 base g n c P S U V a m b w h hU hV ht ha hm hb hn h2 (by omega)
      · exact idtSym3 N ih base g n c P S U V a m b w (by omega) h hU hV ht ha hm hb hn (by omega) (by omega)
theorem idtSym (base g n c : Nat) (P S : List Idt) (U V : List (Idt × Nat)) (a m b : Nat) (w : World) (h : Own 3 idRow 31 base w (.slice (some ⟨g, 0, none⟩) n c) (P ++ ut U ++ (ut V ++ S))) (hU : SL Idt.idx U) (hV : SL Idt.idx V) (ht : TG U V) (ha : P.length = a) (hm : a + U.length = m) (hb : m + V.length = b) (hn : n ≤ 100000) (hu : 0 < U.length) (hv : 0 < V.length) :
    Calls Tryd.prog 61 #[.slice (some ⟨g, 0, none⟩) n c, .int .i64 (a : Int), .int .i64 (m : Int), .int .i64 (b : Int), .func (.func 42) #[] #[]] w fun e w' => e = .returned (.tuple #[]) ∧ (∃ R, Mrg Idt.idx U V R ∧ Own 3 idRow 31 base w' (.slice (some ⟨g, 0, none⟩) n c) (P ++ ut R ++ S)) ∧ Below base w w' :=
  symC_all (b - a) base g n c P S U V a m b w (Nat.le_refl _) h hU hV ht ha hm hb hn hu hv

/-- Blocks so far; behind them what stands as it stood. -/
structure PreB (s : Nat) (T0 : List (Idt × Nat)) (cs : List (List (Idt × Nat))) (Rest : List (Idt × Nat)) : Prop where
  each : ∀ c ∈ cs, c.length = s ∧ SL Idt.idx c
  rise : Rest.Pairwise fun x y => x.2 < y.2
  tags : (cs ++ [Rest]).Pairwise TG
  perm : (cs.flatten ++ Rest).Perm T0
theorem PreB.zero {s : Nat} {T0 : List (Idt × Nat)} (h : T0.Pairwise fun x y => x.2 < y.2) : PreB s T0 [] T0 := ⟨by simp, h, by simp, by simp⟩
theorem PreB.step {s : Nat} {T0 : List (Idt × Nat)} {cs : List (List (Idt × Nat))} {X Rest R : List (Idt × Nat)} (h : PreB s T0 cs (X ++ Rest)) (hl : X.length = s) (hR : SL Idt.idx R) (hp : R.Perm X) : PreB s T0 (cs ++ [R]) Rest := by
  obtain ⟨r1, r2, r3⟩ := List.pairwise_append.1 h.rise
  obtain ⟨t1, t2, t3⟩ := List.pairwise_append.1 h.tags
  refine ⟨fun c hc => ?_, r2, ?_, ?_⟩
  · rcases List.mem_append.1 hc with g | g
    · exact h.each c g
    · simp at g; subst g; exact ⟨by rw [hp.length_eq, hl], hR⟩
  · rw [List.append_assoc, List.pairwise_append]
    refine ⟨t1, ?_, fun c hc r hr => ?_⟩
    · rw [List.singleton_append, List.pairwise_cons]
      refine ⟨fun z hz => ?_, by simp⟩
      simp at hz; subst hz
      exact fun u hu v hv => r3 u (hp.mem_iff.1 hu) v hv
    · have ht := t3 c hc (X ++ Rest) (by simp)
      simp at hr
      rcases hr with rfl | rfl
      · exact ht.right fun x hx => List.mem_append_left _ (hp.mem_iff.1 hx)
      · exact ht.right fun x hx => List.mem_append_right _ hx
  · refine List.Perm.trans ?_ h.perm
    rw [List.flatten_append, List.append_assoc, List.perm_append_left_iff]
    simpa using hp.append_right Rest
theorem PreB.chk {s : Nat} {T0 : List (Idt × Nat)} {cs : List (List (Idt × Nat))} {Rest R : List (Idt × Nat)} (h : PreB s T0 cs Rest) (hl : Rest.length < s) (hR : SL Idt.idx R) (hp : R.Perm Rest) : Chk Idt.idx s cs R ∧ (cs.flatten ++ R).Perm T0 := by
  obtain ⟨t1, t2, t3⟩ := List.pairwise_append.1 h.tags
  refine ⟨⟨h.each, hR, by rw [hp.length_eq]; exact hl, ?_⟩, List.Perm.trans ((List.perm_append_left_iff _).2 hp) h.perm⟩
  rw [List.pairwise_append]
  refine ⟨t1, by simp, fun c hc r hr => ?_⟩
  simp at hr; subst hr
  exact (t3 c hc Rest (by simp)).right fun x hx => hp.mem_iff.1 hx
theorem flat_mul {s : Nat} {cs : List (List (Idt × Nat))} (h : ∀ c ∈ cs, c.length = s ∧ SL Idt.idx c) : cs.flatten.length = cs.length * s := flat_len fun c hc => (h c hc).1
end Go.Proofs.YtglkgmijhdkhpaaDoor
