/-
  Merged: ApartRs, KitEnt, PlanAwake.
-/
import Derived.Test.YtfglkpcboodllaaGreatDoorMr38
import Derived.Test.YtfglkpcboodllaaGreatDoorMr20
import Derived.Test.YtfglkpcboodllaaGreatDoorMr6
import Derived.Deep.QuietTactic
import Derived.BigQuiet
import Derived.Test.YtfglkpcboodllaaGreatDoorMr34
import Derived.Test.YtfglkpcboodllaaGreatDoorMr13
/-
  limpetkit's ApartEntries at lists of copies that lie apart: contract.
-/
set_option linter.unusedVariables false
set_option linter.unusedSimpArgs false
namespace Go.Proofs.YtfglkpcboodllaaGreatDoor
open Go.RowKit

theorem allE_at {L : Nat → List Ent} : ∀ {n p : Nat} {x : Ent}, (allE L n)[p]? = some x → ∃ i k, i < n ∧ (L i)[k]? = some x ∧ p = (allE L i).length + k := by
  intro n
  induction n with
  | zero => intro p x h; simp [allE] at h
  | succ n ih =>
    intro p x h
    simp only [allE] at h
    by_cases hp : p < (allE L n).length
    · rw [List.getElem?_append_left hp] at h
      obtain ⟨i, k, h1, h2, h3⟩ := ih h
      exact ⟨i, k, by omega, h2, h3⟩
    · rw [List.getElem?_append_right (by omega)] at h
      exact ⟨n, p - (allE L n).length, by omega, h, by omega⟩
theorem allE_len {L : Nat → List Ent} {K : Nat} : ∀ {n : Nat}, (∀ j, j < n → (L j).length ≤ K) → (allE L n).length ≤ n * K := by
  intro n
  induction n with
  | zero => intro _; simp [allE]
  | succ n ih =>
    intro h
    have h1 := ih fun j hj => h j (by omega)
    have h2 := h n (by omega)
    simp only [allE, List.length_append, Nat.succ_mul]; omega
theorem vbE_at {L : Nat → List Ent} {n p : Nat} {x : Ent} (h : (allE L n)[p]? = some x) : vbE L n p = x.bv ∧ lbE L n p = x.bd := by
  unfold vbE lbE; rw [h]; exact ⟨rfl, rfl⟩

theorem apartRs (base n : Nat) (A : Nat → Option Addr) (c : Nat → Nat) (ls m : Nat → List Ent) (z : Nat → Nat) (go oo co : Nat) (w : World)
    (r : ∀ j, j < n → Rs base w (A j) (c j) (ls j) (m j))
    (hz : ∀ j, j < n → ∀ x, RsBlk (A j) (c j) (ls j).length (m j) x → z j ≤ x ∧ x < z (j + 1)) (hzm : ∀ i j, i ≤ j → z i ≤ z j)
    (ho : ∀ j, j < n → w.cell? ⟨go, oo + j, none⟩ = some (.slice (A j) (ls j).length (c j))) (hgo : go < w.heap.size) (hg2 : ∀ j, j < n → ∀ x, RsBlk (A j) (c j) (ls j).length (m j) x → x ≠ go)
    (hn0 : 0 < n) (hn : n ≤ 20) (hL : ∀ j, j < n → (ls j).length ≤ 2000) (hB : ∀ j, j < n → ∀ x ∈ m j, x.bd.length ≤ 100000) (hbase : base ≤ w.heap.size) :
    Calls Tryz.prog 28 #[.slice (some ⟨go, oo, none⟩) n co] w fun e w' => e = .returned (.bool true) ∧ Below base w w' := by
  have hml : ∀ j, j < n → (m j).length = (ls j).length := fun j hj => by simpa using congrArg List.length (r j hj).key
  have hN : (allE m n).length ≤ 40000 := by
    have := allE_len (L := m) (K := 2000) (n := n) fun j hj => by rw [hml j hj]; exact hL j hj
    have h2 : n * 2000 ≤ 20 * 2000 := Nat.mul_le_mul_right _ hn
    omega
  have hnn : ∀ x, ¬ blkH nilS = some x := fun x h => by rw [blkH_nil] at h; cases h
  obtain ⟨V, hV⟩ : ∃ V : Nat → Value, V = fun j => .slice (A j) (ls j).length (c j) := ⟨_, rfl⟩
  have hVj : ∀ j, V j = .slice (A j) (ls j).length (c j) := fun j => by rw [hV]
  have hlist : ∀ j x, blkH (V j) = some x → RsBlk (A j) (c j) (ls j).length (m j) x := fun j x h => .inl (by rw [hVj] at h; exact h)
  -- a body, by its place
  have hbody : ∀ p, p < (allE m n).length → ∃ (i k : Nat) (x : Ent), i < n ∧ (m i)[k]? = some x ∧ p = (allE m i).length + k ∧ vbE m n p = x.bv ∧ lbE m n p = x.bd := fun p hp => by
    have hx : (allE m n)[p]? = some (allE m n)[p] := List.getElem?_eq_getElem hp
    obtain ⟨i, k, h1, h2, h3⟩ := allE_at hx
    exact ⟨i, k, _, h1, h2, h3, (vbE_at hx).1, (vbE_at hx).2⟩
  have hbb : ∀ p, p < (allE m n).length → ∀ x, blkH (vbE m n p) = some x → ∃ i, i < n ∧ RsBlk (A i) (c i) (ls i).length (m i) x := fun p hp x hx => by
    obtain ⟨i, k, y, h1, h2, h3, h4, h5⟩ := hbody p hp
    rw [h4] at hx
    exact ⟨i, h1, .inr ⟨k, y, h2, hx⟩⟩
  obtain ⟨EV, hEV⟩ : ∃ EV : List Nat, EV = (List.range n).filterMap fun j => blkH (V j) := ⟨_, rfl⟩
  obtain ⟨EB, hEB⟩ : ∃ EB : List Nat, EB = (List.range (allE m n).length).filterMap fun p => blkH (vbE m n p) := ⟨_, rfl⟩
  have mEV : ∀ x, x ∈ EV ↔ ∃ j, j < n ∧ blkH (V j) = some x := fun x => by rw [hEV]; simp [List.mem_filterMap]
  have mEB : ∀ x, x ∈ EB ↔ ∃ p, p < (allE m n).length ∧ blkH (vbE m n p) = some x := fun x => by rw [hEB]; simp [List.mem_filterMap]
  have hlow : ∀ j, j < n → ∀ x, RsBlk (A j) (c j) (ls j).length (m j) x → x < w.heap.size := fun j hj x hx => ((r j hj).blk hx).2
  -- lists and bodies are of unlike types
  have hunlike : ∀ j p x, j < n → p < (allE m n).length → blkH (V j) = some x → blkH (vbE m n p) ≠ some x := fun j p x hj hp h1 h2 => by
    obtain ⟨i, k, y, g1, g2, g3, g4, g5⟩ := hbody p hp
    rw [g4] at h2
    have ha := (r j hj).own
    rw [hVj] at h1
    exact own_apart ha ((r i g1).bod.own k y g2) (by decide) (blkH_own h1) (blkH_own h2)
  have hfE : FamEntries base (go :: (EB ++ [])) n w V (fun _ => nilS) m (fun _ => []) := by
    refine ⟨fun j hj => ?_, fun j hj => OwnH.nil_ _ _ _ _ _, fun j hj x _ h => (hnn x h).elim, fun i j hi hj hij x hx hx' => ?_, fun j hj x hx hm => ?_⟩
    · rw [hVj]; exact (r j hj).own.h
    · have h1 := hz i hi x (hlist i x (hx.resolve_right (hnn x)))
      have h2 := hz j hj x (hlist j x (hx'.resolve_right (hnn x)))
      rcases Nat.lt_or_gt_of_ne hij with h | h
      · have := hzm (i + 1) j h; omega
      · have := hzm (j + 1) i h; omega
    · have h1 := hx.resolve_right (hnn x)
      rw [List.append_nil] at hm
      rcases List.mem_cons.1 hm with h | h
      · exact hg2 j hj x (hlist j x h1) h
      · obtain ⟨p, hp, h2⟩ := (mEB x).1 h
        exact hunlike j p x hj hp h1 h2
  have hfB : FamB base (go :: (EV ++ [])) (allE m n).length w (vbE m n) (fun _ => nilS) (lbE m n) (fun _ => []) := by
    refine ⟨fun p hp => ?_, fun j hj => OwnH.nil_ _ _ _ _ _, fun j hj x _ h => (hnn x h).elim, fun p q hp hq hpq x hx hx' => ?_, fun p hp x hx hm => ?_⟩
    · obtain ⟨i, k, y, h1, h2, h3, h4, h5⟩ := hbody p hp
      rw [h4, h5]; exact ((r i h1).bod.own k y h2).h
    · have h1 := hx.resolve_right (hnn x)
      have h2 := hx'.resolve_right (hnn x)
      obtain ⟨i, k, y, a1, a2, a3, a4, a5⟩ := hbody p hp
      obtain ⟨j, k', y', b1, b2, b3, b4, b5⟩ := hbody q hq
      rw [a4] at h1; rw [b4] at h2
      by_cases hij : i = j
      · subst hij
        exact (r i a1).bod.far k k' y y' (fun he => hpq (by rw [a3, b3, he])) a2 b2 x h1 h2
      · have g1 := hz i a1 x (.inr ⟨k, y, a2, h1⟩)
        have g2 := hz j b1 x (.inr ⟨k', y', b2, h2⟩)
        rcases Nat.lt_or_gt_of_ne hij with h | h
        · have := hzm (i + 1) j h; omega
        · have := hzm (j + 1) i h; omega
    · have h1 := hx.resolve_right (hnn x)
      rw [List.append_nil] at hm
      rcases List.mem_cons.1 hm with h | h
      · obtain ⟨i, hi, hr⟩ := hbb p hp x h1
        exact hg2 i hi x hr h
      · obtain ⟨j, hj, h2⟩ := (mEV x).1 h
        exact hunlike j p x hj hp h2 h1
  refine (apartEntries base n EV EB [] V m go oo co w hfE hfB (fun j hj x hx => (mEV x).2 ⟨j, hj, hx⟩) (fun p hp x hx => (mEB x).2 ⟨p, hp, hx⟩) (fun x hx => ?_) (fun x hx => ?_) (fun j hj => by rw [hVj]; exact ho j hj) hgo hn0 (by omega) (by omega) (fun j hj => by rw [hml j hj]; have := hL j hj; omega) (fun p hp => ?_) hbase (fun p hp => by simp at hp)).mono fun e w' h => ⟨h.1, h.2.low⟩
  · obtain ⟨j, hj, h⟩ := (mEV x).1 hx
    exact hlow j hj x (hlist j x h)
  · obtain ⟨p, hp, h⟩ := (mEB x).1 hx
    obtain ⟨i, hi, hr⟩ := hbb p hp x h
    exact hlow i hi x hr
  · obtain ⟨i, k, y, h1, h2, h3, h4, h5⟩ := hbody p hp
    rw [h5]; exact hB i h1 y (List.mem_of_getElem? h2)
end Go.Proofs.YtfglkpcboodllaaGreatDoor
/-
  limpetkit's SameBytes, EntriesOf, Pick: contracts.
-/
set_option linter.unusedVariables false
set_option linter.unusedSimpArgs false
namespace Go.Proofs.YtfglkpcboodllaaGreatDoor
open Go.RowKit

/-- Entries and their bytes, counted. -/
def sizeE : List Ent → Nat
  | [] => 0
  | x :: l => 1 + x.bd.length + sizeE l
theorem sizeE_append (l m : List Ent) : sizeE (l ++ m) = sizeE l + sizeE m := by
  induction l with
  | nil => simp [sizeE]
  | cons x l ih => simp only [List.cons_append, sizeE, ih]; omega
theorem sizeE_take {l : List Ent} {k : Nat} {x : Ent} (hx : l[k]? = some x) : sizeE (l.take (k + 1)) = sizeE (l.take k) + 1 + x.bd.length := by
  rw [take_at hx, sizeE_append]; simp [sizeE]; omega
theorem sizeE_take_le (l : List Ent) (k : Nat) : sizeE (l.take k) ≤ sizeE l := by
  have h : sizeE (l.take k ++ l.drop k) = sizeE (l.take k) + sizeE (l.drop k) := sizeE_append _ _
  rw [List.take_append_drop] at h; omega
theorem sizeE_len (l : List Ent) : l.length ≤ sizeE l := by
  induction l with
  | nil => simp [sizeE]
  | cons x l ih => simp only [List.length_cons, sizeE]; omega
theorem sizeE_mem {l : List Ent} {x : Ent} (hx : x ∈ l) : x.bd.length < sizeE l := by
  induction l with
  | nil => cases hx
  | cons y l ih =>
    simp only [sizeE]
    rcases List.mem_cons.1 hx with rfl | hx
    · omega
    · have := ih hx; omega

/-- Entries counted: all of them, or more than the bound. -/
def CntPost (l : List Ent) (most : Nat) (w : World) (e : Ending) (w' : World) : Prop := ∃ n : Nat, e = .returned (.int .i64 n) ∧ (n = sizeE l ∨ most < n ∧ most < sizeE l) ∧ w = w'
theorem cnt_mk {l : List Ent} {most n : Nat} {w : World} (h : n = sizeE l ∨ most < n ∧ most < sizeE l) : CntPost l most w (.returned (.int .i64 n)) w := ⟨n, rfl, h, rfl⟩

set_option maxHeartbeats 1000000 in
theorem entriesOf (l : List Ent) (most : Nat) (v : Value) (w : World) (hl : Sl 4 entRow w.heap.size w v l) (hbig : ∀ x ∈ l, x.bd.length ≤ 140737488351232) (hm : most ≤ 1000000) :
    Calls Tryz.prog 50 #[v, .int .i64 most] w (CntPost l most w) := by
  obtain ⟨A, cap, rfl, hlc, hcm, -, hA⟩ := hl
  have hn : l.length ≤ 9223372036854775807 := by unfold maxLen at hcm; omega
  have HA := Lib.hid hA
  have HBG := Lib.hid hbig
  clear hcm hA hbig
  go_enter Tryz.func50, Tryz.ntmps50
  go_wp2_with fail
  go_loop [5, 6] (fun c i => ∃ k n : Nat, k ≤ l.length ∧ i = .int .i64 k ∧ c = .int .i64 n ∧ n = sizeE (l.take k) ∧ n ≤ 140737489351233) (fun _ i => l.length - (intOf i).toNat)
  case atStart => exact ⟨0, 0, by omega, rfl, rfl, rfl, by omega⟩
  case round =>
    obtain ⟨k, n, hk, rfl, rfl, hs, hn2⟩ := hrel
    by_cases hlt : k < l.length
    · obtain ⟨b, off, rfl, hb, hcell⟩ := HA.out (by intro h; subst h; simp at hlt)
      obtain ⟨x, hx⟩ : ∃ x, l[k]? = some x := ⟨_, List.getElem?_eq_getElem hlt⟩
      have c3 : w.cell? ⟨b, off + k * 4 + 3, none⟩ = _ := hcell k x hx 3 _ rfl
      have hxb := HBG.out x (List.mem_of_getElem? hx)
      have i0 : (0 : Int) ≤ (k : Int) := by omega
      have i1 : (k : Int) < (l.length : Int) := by omega
      have d0 : decide ((k : Int) < (l.length : Int)) = true := decide_eq_true i1
      have d0' : decide (k < l.length) = true := decide_eq_true hlt
      by_cases hmn : n ≤ most
      · have d1 : decide (n ≤ most) = true := decide_eq_true hmn
        have HS := Lib.hid (show n + 1 + x.bd.length = sizeE (l.take (k + 1)) by rw [sizeE_take hx, hs])
        clear hcell hx hs
        go_wp2_with fail
        go_round
        case rel => exact ⟨k + 1, n + 1 + x.bd.length, by omega, by go_num, by go_num, HS.out, by omega⟩
        case measure => simp [intOf]; omega
      · have d1 : decide (n ≤ most) = false := decide_eq_false hmn
        have HS := Lib.hid (show n = sizeE l ∨ most < n ∧ most < sizeE l from .inr ⟨by omega, by have := sizeE_take_le l k; omega⟩)
        clear hcell hx hs
        go_wp2_with fail
        go_ret
        exact cnt_mk HS.out
    · have hk' : k = l.length := by omega
      have d0 : decide (k < l.length) = false := decide_eq_false hlt
      have HS := Lib.hid (show n = sizeE l ∨ most < n ∧ most < sizeE l from .inl (by rw [hs, hk', List.take_length]))
      clear hk' hs
      go_wp2_with fail
      go_ret
      exact cnt_mk HS.out
end Go.Proofs.YtfglkpcboodllaaGreatDoor
/-
  limpetlaw20's great, small, awake: contracts. Condition of awake: errors.errorType holds its value.
-/
set_option linter.unusedVariables false
set_option linter.unusedSimpArgs false
namespace Go.Proofs.YtfglkpcboodllaaGreatDoor
open Go.RowKit

def greatV (l : List Idt) (es : List Ent) : Bool := decide (500 < l.length) || decide (500 < sizeE es)
def smallV (b : Idt) (l : List Idt) : Bool := decide (b.idx < 1099511627276) && rightV b l
set_option maxHeartbeats 1000000 in
theorem great20 (b : Idt) (l : List Idt) (A : Option Addr) (c : Nat) (es : List Ent) (Ae : Option Addr) (ce : Nat) (w : World) (hl : l.length ≤ 140737488351232) (h : Sl 4 entRow w.heap.size w (.slice Ae es.length ce) es) (hbig : ∀ x ∈ es, x.bd.length ≤ 140737488351232) :
    Calls Tryz.prog 12 #[.agg #[.int .i64 b.idx, .int .i64 b.trm, .int .i64 b.knd, .slice A l.length c], .slice Ae es.length ce] w fun e w' => e = .returned (.bool (greatV l es)) ∧ Below w.heap.size w w' := by
  by_cases h1 : 500 < l.length
  · have e0 : greatV l es = true := by unfold greatV; rw [decide_eq_true h1]; rfl
    have d0 : decide ((500 : Int) < (l.length : Int)) = true := decide_eq_true (by omega)
    have d1 : decide (500 < l.length) = true := decide_eq_true h1
    rw [e0]
    clear e0 h
    go_enter Tryz.func12, Tryz.ntmps12
    go_wp2_with fail
    go_ret
    exact ⟨rfl, below_new _ _⟩
  · have d0 : decide ((500 : Int) < (l.length : Int)) = false := decide_eq_false (by omega)
    have d1 : decide (500 < l.length) = false := decide_eq_false h1
    have C := Lib.hid (entriesOf es 500 _ (w.alloc (.cells #[.int .i64 b.idx, .int .i64 b.trm, .int .i64 b.knd, .slice A l.length c] 36)) (h.alloc _) hbig (by omega))
    have HG := Lib.hid (show greatV l es = decide (500 < sizeE es) by unfold greatV; rw [d1]; rfl)
    clear h
    rw [HG.out]
    by_cases h2 : 500 < sizeE es
    · rw [decide_eq_true h2]
      go_enter Tryz.func12, Tryz.ntmps12
      go_upto_region 1 with fail
      go_wp2_with (go_at_call 50; refine C.out.mono ?_; rintro e w1 ⟨n, rfl, hn, rfl⟩; have hn1 : (500 : Int) < (n : Int) := (by omega); have hn2 : decide ((500 : Int) < (n : Int)) = true := decide_eq_true hn1; have hn3 : decide (500 < n) = true := decide_eq_true (by omega); clear hn)
      go_ret
      exact ⟨rfl, below_new _ _⟩
    · rw [decide_eq_false h2]
      go_enter Tryz.func12, Tryz.ntmps12
      go_upto_region 1 with fail
      go_wp2_with (go_at_call 50; refine C.out.mono ?_; rintro e w1 ⟨n, rfl, hn, rfl⟩; have hn1 : ¬ (500 : Int) < (n : Int) := (by omega); have hn2 : decide ((500 : Int) < (n : Int)) = false := decide_eq_false hn1; have hn3 : decide (500 < n) = false := decide_eq_false (by omega); clear hn)
      go_ret
      exact ⟨rfl, below_new _ _⟩
theorem aw20_two {m : List Ent} (h : m.map keyE = entsK 2 0 [3, 3]) : ∃ b1 n1 d1 b2 n2 d2, m = [⟨3, 3, 2, b1, n1, d1⟩, ⟨4, 3, 2, b2, n2, d2⟩] ∧ d1.length = 1 ∧ d2.length = 1 := by
  rcases m with _ | ⟨x, _ | ⟨y, _ | ⟨z, r⟩⟩⟩
  · simp [entsK] at h
  · simp [entsK] at h
  · simp only [List.map_cons, List.map_nil, keyE, entsK, List.cons.injEq, Prod.mk.injEq, and_true] at h
    obtain ⟨⟨h1, h2, h3, h4⟩, h5, h6, h7, h8⟩ := h
    obtain ⟨i, t, k, ba, bc, bd⟩ := x
    obtain ⟨i2, t2, k2, ba2, bc2, bd2⟩ := y
    simp only at h1 h2 h3 h4 h5 h6 h7 h8
    refine ⟨ba, bc, bd, ba2, bc2, bd2, ?_, by rw [h4]; rfl, by rw [h8]; rfl⟩
    subst h1 h2 h3 h5 h6 h7
    rfl
  · simp [entsK] at h
theorem aw20_fit (W : World) (A : Option Addr) (c : Nat) (Ae : Option Addr) (ce : Nat) (m : List Ent) (hk : m.map keyE = entsK 2 0 [3, 3]) (h : Sl 3 idRow W.heap.size W (.slice A 3 c) (viewL 0 [1, 1, 2])) (he : Sl 4 entRow W.heap.size W (.slice Ae 2 ce) m) (hein : ∀ x ∈ m, EntIn W.heap.size W x ∧ x.bd.length ≤ 100000) (hG : errTypeIs W) :
    Calls Tryz.prog 16 #[.agg #[.int .i64 0, .int .i64 0, .int .i64 0, .slice A 3 c], .agg #[.int .i64 2, .int .i64 1, .int .i64 2], .slice Ae 2 ce] W fun e w' => ∃ A1 c1 A2 c2, e = .returned (.tuple #[.agg #[.bool true, .int .i64 4, .int .i64 3, .slice A1 0 c1, .slice A2 2 c2], .int .i64 0]) ∧ Below W.heap.size W w' := by
  obtain ⟨b1, n1, d1, b2, n2, d2, rfl, hd1, hd2⟩ := aw20_two hk
  refine (fitYes zI ⟨2, 1, 2⟩ (viewL 0 [1, 1, 2]) A c [⟨3, 3, 2, b1, n1, d1⟩, ⟨4, 3, 2, b2, n2, d2⟩] Ae ce W h he hein (by simp) (by unfold I64 zI; simp only; omega) (by unfold I64; simp only; omega) ?_ ?_ hG (by kernel_rfl) ?_ (by kernel_rfl)).mono ?_
  · intro q hq
    simp only [viewL, List.mem_cons, List.not_mem_nil, or_false] at hq
    rcases hq with rfl | rfl | rfl <;> (unfold I64; simp only; omega)
  · intro x hx
    simp only [List.mem_cons, List.not_mem_nil, or_false] at hx
    rcases hx with rfl | rfl <;> (unfold I64; simp only; omega)
  · refine fol_of _ _ (fun i x hx => ?_) (fun i j x y hij hx hy => ?_)
    · match i, hx with
      | 0, hx => simp only [List.getElem?_cons_zero, Option.some.injEq] at hx; subst hx; refine ⟨?_, by simp, by simp⟩; unfold goodE rangeE; simp [hd1]
      | 1, hx => simp only [List.getElem?_cons_succ, List.getElem?_cons_zero, Option.some.injEq] at hx; subst hx; refine ⟨?_, by simp, by simp⟩; unfold goodE rangeE; simp [hd2]
    · match i, j, hx, hy with
      | 0, 0, hx, hy => simp at hx hy; subst hx; subst hy; exact Int.le_refl _
      | 0, 1, hx, hy => simp at hx hy; subst hx; subst hy; exact Int.le_refl _
      | 1, 1, hx, hy => simp at hx hy; subst hx; subst hy; exact Int.le_refl _
  · rintro e w' ⟨A1, c1, m1, A2, c2, m2, rfl, -, -, hb⟩
    exact ⟨A1, c1, A2, c2, by kernel_rfl, hb⟩
theorem aw20_no (W : World) (A : Option Addr) (c : Nat) (h : Sl 3 idRow W.heap.size W (.slice A 3 c) (viewL 0 [1, 1, 2])) (hG : errTypeIs W) :
    Calls Tryz.prog 16 #[.agg #[.int .i64 0, .int .i64 0, .int .i64 0, .slice A 3 c], .agg #[.int .i64 5, .int .i64 3, .int .i64 2], .slice none 0 0] W fun e w' => e = .returned (.tuple #[.agg #[.bool false, .int .i64 3, .int .i64 0, .slice none 0 0, .slice none 0 0], .int .i64 0]) ∧ Below W.heap.size W w' := by
  refine (fitNo zI ⟨5, 3, 2⟩ (viewL 0 [1, 1, 2]) A c [] none 0 W h (Sl.nil_ _ _ _ _) (fun x hx => by simp at hx) (by simp) (by unfold I64 zI; simp only; omega) (by unfold I64; simp only; omega) ?_ (fun x hx => by simp at hx) hG (by kernel_rfl) rfl (fun h => absurd (h.symm.trans (show fitK zI (viewL 0 [1, 1, 2]) (shownV zI (viewL 0 [1, 1, 2]) 0 []) 5 3 = 1 by kernel_rfl)) (by decide))).mono ?_
  · intro q hq
    simp only [viewL, List.mem_cons, List.not_mem_nil, or_false] at hq
    rcases hq with rfl | rfl | rfl <;> (unfold I64; simp only; omega)
  · rintro e w' ⟨rfl, hb⟩
    exact ⟨by kernel_rfl, hb⟩

set_option maxRecDepth 100000 in
set_option maxHeartbeats 4000000 in
theorem awake20 (w : World) (hG : errTypeIs w) :
    Calls Tryz.prog 13 #[] w fun e w' => e = .returned (.bool true) ∧ Below w.heap.size w w' := by
  have HG := Lib.hid hG
  clear hG
  have CV := Lib.hid (fun W : World => lawView [1, 1, 2] (.slice (some ⟨W.heap.size, 0, none⟩) 3 3) (W.alloc (.cells #[.int .i64 1, .int .i64 1, .int .i64 2] 3)) (Box.sl i64Row_length [1, 1, 2] (Box.new W #[.int .i64 1, .int .i64 1, .int .i64 2] 3) rfl (by unfold maxLen; simp)) (by simp))
  have CE := Lib.hid (fun W : World => lawEnts 2 [3, 3] (.slice (some ⟨W.heap.size, 0, none⟩) 2 2) (W.alloc (.cells #[.int .i64 3, .int .i64 3] 3)) (Box.sl i64Row_length [3, 3] (Box.new W #[.int .i64 3, .int .i64 3] 3) rfl (by unfold maxLen; simp)) (by simp) (by omega) (by omega))
  go_enter Tryz.func13, Tryz.ntmps13
  go_upto_region 2 with (first
    | (go_at_call 75; refine (CV.out w).mono ?_; rintro e w1 ⟨A, c, rfl, ho, hb⟩; have HV := Lib.hid (ho.sl idRow_length); have HB1 := Lib.hid (below_call (below_new _ _) hb); clear ho hb)
    | (go_at_call 29; refine (CE.out w1).mono ?_; rintro e w2 ⟨Ae, ce, m, rfl, hk, ho, hf, hb⟩; have HK := Lib.hid hk; have HE := Lib.hid (ho.sl entRow_length); have HI := Lib.hid (ents_in hk hf); have HB2 := Lib.hid (below_call HB1.out (below_call (below_new _ _) hb)); have HV2 := Lib.hid (HV.out.later (below_call (below_new _ _) hb)); clear hk ho hf hb)
    | (go_at_call 16; refine (aw20_fit w2 A c Ae ce m HK.out HV2.out HE.out HI.out (errType_later HG.out HB2.out)).mono ?_; rintro e w3 ⟨A1, c1, A2, c2, rfl, hb⟩; have HB3 := Lib.hid (below_call HB2.out hb); clear hb))
  have HP := Lib.hid (Box.new w3 #[.bool true, .int .i64 4, .int .i64 3, .slice A1 0 c1, .slice A2 2 c2] 41)
  have HB4 := Lib.hid (below_call HB3.out (below_new w3 (.cells #[.bool true, .int .i64 4, .int .i64 3, .slice A1 0 c1, .slice A2 2 c2] 41)))
  obtain ⟨gp, hgp⟩ : ∃ g, g = w3.heap.size := ⟨_, rfl⟩
  obtain ⟨w4, hw4⟩ : ∃ x, x = w3.alloc (.cells #[.bool true, .int .i64 4, .int .i64 3, .slice A1 0 c1, .slice A2 2 c2] 41) := ⟨_, rfl⟩
  rw [← hw4] at HP HB4
  rw [← hw4, ← hgp]
  rw [← hgp] at HP
  clear hw4 hgp HV HK HE HI HV2 HB1 HB2 HB3 CE
  go_upto_region 3 with (first
    | (go_at_call 75; refine (CV.out w4).mono ?_; rintro e w5 ⟨A5, c5, rfl, ho, hb⟩; have HV5 := Lib.hid (ho.sl idRow_length); have HB5 := Lib.hid (below_call HB4.out (below_call (below_new _ _) hb)); have HP5 := Lib.hid (HP.out.later (below_call (below_new _ _) hb)); clear ho hb)
    | (go_at_call 16; refine (aw20_no w5 A5 c5 HV5.out (errType_later HG.out HB5.out)).mono ?_; rintro e w6 ⟨rfl, hb⟩; have HB6 := Lib.hid (below_call HB5.out hb); have HP6 := Lib.hid (HP5.out.later hb); clear hb))
  have HQ := Lib.hid (Box.new w6 #[.bool false, .int .i64 3, .int .i64 0, .slice none 0 0, .slice none 0 0] 41)
  have HP7 := Lib.hid (HP6.out.alloc (.cells #[.bool false, .int .i64 3, .int .i64 0, .slice none 0 0, .slice none 0 0] 41))
  have HB7 := Lib.hid (below_call HB6.out (below_new w6 (.cells #[.bool false, .int .i64 3, .int .i64 0, .slice none 0 0, .slice none 0 0] 41)))
  obtain ⟨kq, fq, zq⟩ := HQ.out.facts
  obtain ⟨kp, fp, zp⟩ := HP7.out.facts
  go_wp2_with fail
  go_ret
  exact ⟨rfl, HB7.out⟩
end Go.Proofs.YtfglkpcboodllaaGreatDoor
