/-
  TWO LOGS OF ONE KIND: what an append of the one makes of the other. Plain Lean, no program.
-/
import Derived.Test.YtfglkpcboodllaaGreatDoorMr31
set_option linter.unusedVariables false
namespace Go.Proofs.YtfglkpcboodllaaGreatDoor
open Go.RowKit

def zI : Idt := ⟨0, 0, 0⟩
/-- A log of some terms. -/
def viewL (i : Int) : List Int → List Idt
  | [] => []
  | t :: r => ⟨i + 1, t, 2⟩ :: viewL (i + 1) r
theorem viewL_length (ts : List Int) : ∀ i, (viewL i ts).length = ts.length := by
  induction ts with
  | nil => intro i; rfl
  | cons t r ih => intro i; show (viewL (i + 1) r).length + 1 = r.length + 1; rw [ih]
theorem viewL_at (ts : List Int) : ∀ (i : Int) (k : Nat), (viewL i ts)[k]? = ts[k]?.map (fun t => (⟨i + 1 + (k : Int), t, 2⟩ : Idt)) := by
  induction ts with
  | nil => intro i k; simp [viewL]
  | cons t r ih =>
    intro i k
    cases k with
    | zero => simp [viewL]
    | succ k =>
      show (viewL (i + 1) r)[k]? = _
      rw [ih, List.getElem?_cons_succ]
      congr 1
      funext t
      congr 1; push_cast; omega
theorem viewL_snoc (ts : List Int) (t : Int) : ∀ i, viewL i (ts ++ [t]) = viewL i ts ++ [⟨i + 1 + (ts.length : Int), t, 2⟩] := by
  induction ts with
  | nil => intro i; simp [viewL]
  | cons u r ih =>
    intro i
    show _ :: viewL (i + 1) (r ++ [t]) = _
    rw [ih]
    show _ = (⟨i + 1, u, 2⟩ : Idt) :: viewL (i + 1) r ++ _
    simp only [List.cons_append, List.length_cons]
    congr 3
    rw [show i + 1 + 1 + (r.length : Int) = i + 1 + ((r.length + 1 : Nat) : Int) by push_cast; omega]
/-- The entries of some terms, by what they are. -/
def entsK (a : Int) (n : Nat) : List Int → List (Int × Int × Int × List Int)
  | [] => []
  | t :: r => (a + 1 + (n : Int), t, 2, [((n % 256 : Nat) : Int)]) :: entsK a (n + 1) r
theorem entsK_snoc (a : Int) (ts : List Int) (t : Int) : ∀ n, entsK a n (ts ++ [t]) = entsK a n ts ++ [(a + 1 + ((n + ts.length : Nat) : Int), t, 2, [(((n + ts.length) % 256 : Nat) : Int)])] := by
  induction ts with
  | nil => intro n; simp [entsK]
  | cons u r ih =>
    intro n
    show _ :: entsK a (n + 1) (r ++ [t]) = _
    rw [ih]
    show _ = (a + 1 + (n : Int), u, 2, [((n % 256 : Nat) : Int)]) :: entsK a (n + 1) r ++ _
    simp only [List.cons_append, List.length_cons]
    rw [show n + 1 + r.length = n + (r.length + 1) by omega]
theorem entsK_at (a : Int) (ts : List Int) : ∀ (n k : Nat), (entsK a n ts)[k]? = ts[k]?.map (fun t => (a + 1 + ((n + k : Nat) : Int), t, 2, [(((n + k) % 256 : Nat) : Int)])) := by
  induction ts with
  | nil => intro n k; simp [entsK]
  | cons t r ih =>
    intro n k
    cases k with
    | zero => simp [entsK]
    | succ k =>
      show (entsK a (n + 1) r)[k]? = _
      rw [ih, List.getElem?_cons_succ, show n + 1 + k = n + (k + 1) by omega]
theorem entsK_length (a : Int) (ts : List Int) : ∀ n, (entsK a n ts).length = ts.length := by
  induction ts with
  | nil => intro n; rfl
  | cons t r ih => intro n; show (entsK a (n + 1) r).length + 1 = r.length + 1; rw [ih]

/-- Entries of the terms own, index upon index. -/
structure LeadI (own : List Int) (lead : List Ent) : Prop where
  len : lead.length = own.length
  at_ : ∀ (i : Nat) (x : Ent), lead[i]? = some x → x.idx = (i : Int) + 1 ∧ own[i]? = some x.trm ∧ x.knd = 2 ∧ x.bd.length = 1
theorem leadI_of {own : List Int} {lead : List Ent} (h : lead.map keyE = entsK 0 0 own) : LeadI own lead := by
  refine ⟨by have := congrArg List.length h; simpa [entsK_length] using this, fun i x hx => ?_⟩
  have e : (lead.map keyE)[i]? = some (keyE x) := by rw [List.getElem?_map, hx]; rfl
  rw [h, entsK_at] at e
  cases ho : own[i]? with
  | none => rw [ho] at e; simp at e
  | some t =>
    rw [ho] at e
    simp only [Option.map_some, Option.some.injEq, keyE, Prod.mk.injEq] at e
    obtain ⟨h1, h2, h3, h4⟩ := e
    refine ⟨by push_cast at h1; omega, by rw [h2], h3.symm, by rw [← h4]; rfl⟩
/-- Terms that do not sink, from 0 to T. -/
structure OwnI (own : List Int) (T : Int) : Prop where
  mono : ∀ (i j : Nat) x y, i ≤ j → own[i]? = some x → own[j]? = some y → x ≤ y
  rng : ∀ (i : Nat) x, own[i]? = some x → 0 ≤ x ∧ x ≤ T
  top : 0 ≤ T ∧ T ≤ 1000
  len : own.length ≤ 40
/-- The other log: the same up to place a, greater terms behind. -/
structure OneI (own : List Int) (T : Int) (l : List Idt) (a : Nat) : Prop where
  len : l.length ≤ 1000
  ha : a ≤ own.length ∧ a ≤ l.length
  idx : ∀ (i : Nat) (p : Idt), l[i]? = some p → p.idx = (i : Int) + 1 ∧ p.knd = 2 ∧ 0 ≤ p.trm
  near : ∀ (i : Nat) (p : Idt), i < a → l[i]? = some p → own[i]? = some p.trm
  far : ∀ (i : Nat) (p : Idt), a ≤ i → l[i]? = some p → T < p.trm
  mono : ∀ (i j : Nat) (p q : Idt), a ≤ i → i ≤ j → l[i]? = some p → l[j]? = some q → p.trm ≤ q.trm

theorem fol_of : ∀ (es : List Ent) (p : Idt), (∀ (i : Nat) x, es[i]? = some x → goodE x = true ∧ x.idx = p.idx + 1 + (i : Int) ∧ p.trm ≤ x.trm) → (∀ (i j : Nat) x y, i ≤ j → es[i]? = some x → es[j]? = some y → x.trm ≤ y.trm) → folE p es = 0 := by
  intro es
  induction es with
  | nil => intro p _ _; rfl
  | cons x r ih =>
    intro p h hm
    obtain ⟨h1, h2, h3⟩ := h 0 x rfl
    have hs : stepE p x = 0 := by
      unfold stepE
      rw [if_neg (by rw [h1]; simp), if_neg (by push_cast at h2; omega)]
    show (if stepE p x = 0 then folE (ofE x) r else stepE p x) = 0
    rw [if_pos hs]
    refine ih (ofE x) (fun i y hy => ?_) (fun i j y z hij hy hz => hm (i + 1) (j + 1) y z (by omega) (by simpa using hy) (by simpa using hz))
    obtain ⟨g1, g2, g3⟩ := h (i + 1) y (by simpa using hy)
    refine ⟨g1, ?_, hm 0 (i + 1) x y (by omega) rfl (by simpa using hy)⟩
    show y.idx = x.idx + 1 + (i : Int)
    push_cast at g2 h2; omega
theorem right_of {l : List Idt} (hl : l.length ≤ 1000) (hi : ∀ (i : Nat) (p : Idt), l[i]? = some p → p.idx = (i : Int) + 1 ∧ p.knd = 2 ∧ 0 ≤ p.trm) (hm : ∀ (i j : Nat) (p q : Idt), i ≤ j → l[i]? = some p → l[j]? = some q → p.trm ≤ q.trm) : rightV zI l = true := by
  have hv : ∀ (n k : Nat) (t : Int), l.length - k = n → (∀ (i : Nat) (p : Idt), k ≤ i → l[i]? = some p → t ≤ p.trm) → vRun 0 t k (l.drop k) = true := by
    intro n
    induction n with
    | zero => intro k t h0 _; exact vRun_end 0 t k l (by omega)
    | succ n ih =>
      intro k t h0 ht
      obtain ⟨p, hp⟩ : ∃ p, l[k]? = some p := ⟨_, List.getElem?_eq_getElem (by omega)⟩
      obtain ⟨h1, h2, h3⟩ := hi k p hp
      rw [vRun_known hp (by omega), ih (k + 1) p.trm (by omega) (fun i q hki hq => hm k i p q (by omega) hp hq), Bool.and_true]
      exact decide_eq_true ⟨by omega, ht k p (Nat.le_refl _) hp⟩
  have he : endOk l = true := by
    cases hx : l[l.length - 1]? with
    | none => unfold endOk; rw [hx]
    | some p => rw [endOk_at hx]; exact decide_eq_true (by have := (hi _ p hx).2.1; omega)
  rw [rightV_of ⟨by show (0 : Int) ≤ 0; omega, by show (0 : Int) ≤ _; omega, by show (l.length : Int) ≤ 1099511627776 - 0; omega⟩, he, Bool.and_true]
  have := hv _ 0 0 rfl (fun i p _ hp => (hi i p hp).2.2)
  rwa [List.drop_zero] at this
section
variable {own : List Int} {T : Int} {lead : List Ent} {l : List Idt} {a next : Nat}
theorem OneI.all (hO : OwnI own T) (h : OneI own T l a) : ∀ (i j : Nat) (p q : Idt), i ≤ j → l[i]? = some p → l[j]? = some q → p.trm ≤ q.trm := by
  intro i j p q hij hp hq
  by_cases hj : j < a
  · exact hO.mono i j _ _ hij (h.near i p (by omega) hp) (h.near j q hj hq)
  · by_cases hi : i < a
    · have h1 := (hO.rng i _ (h.near i p hi hp)).2
      have h2 := h.far j q (by omega) hq
      omega
    · exact h.mono i j p q (by omega) hij hp hq
theorem OneI.right (hO : OwnI own T) (h : OneI own T l a) : rightV zI l = true := right_of h.len h.idx (h.all hO)
theorem OneI.at (h : OneI own T l a) {i : Nat} {p : Idt} (hp : l[i]? = some p) : atV zI l ((i : Int) + 1) = some p := by
  rw [atV_in (j := i) (by show (i : Int) + 1 - 0 - 1 = _; omega) hp, if_neg (by have := (h.idx i p hp).2.1; omega)]
/-- The part that is sent. -/
def sendE (lead : List Ent) (next : Nat) : List Ent := (lead.take (min (next + 3) lead.length)).drop next
theorem sendE_at (hn : next ≤ lead.length) (i : Nat) : (sendE lead next)[i]? = if next + i < min (next + 3) lead.length then lead[next + i]? else none := by
  unfold sendE
  rw [List.getElem?_drop, List.getElem?_take]
theorem sendE_some (hn : next ≤ lead.length) {i : Nat} {x : Ent} (h : (sendE lead next)[i]? = some x) : next + i < min (next + 3) lead.length ∧ lead[next + i]? = some x := by
  rw [sendE_at hn] at h
  by_cases hc : next + i < min (next + 3) lead.length
  · rw [if_pos hc] at h; exact ⟨hc, h⟩
  · rw [if_neg hc] at h; simp at h
theorem sendE_length (hn : next ≤ lead.length) : (sendE lead next).length = min (next + 3) lead.length - next := by
  unfold sendE; rw [List.length_drop, List.length_take]; omega
def prevE (lead : List Ent) (next : Nat) : Idt := lastE zI (lead.take next)
theorem prevE_zero : prevE lead 0 = zI := rfl
theorem prevE_at (hL : LeadI own lead) (hn : next ≤ lead.length) (h0 : 0 < next) : ∃ t, own[next - 1]? = some t ∧ prevE lead next = ⟨(next : Int), t, 2⟩ := by
  obtain ⟨x, hx⟩ : ∃ x, lead[next - 1]? = some x := ⟨_, List.getElem?_eq_getElem (by omega)⟩
  obtain ⟨h1, h2, h3, -⟩ := hL.at_ _ x hx
  refine ⟨x.trm, h2, ?_⟩
  have e : (lead.take next)[(lead.take next).length - 1]? = some x := by
    rw [List.length_take, Nat.min_eq_left hn, List.getElem?_take, if_pos (by omega)]; exact hx
  unfold prevE
  rw [lastE_get _ _ _ e]
  unfold ofE
  rw [h1, h3]; congr 1; omega
theorem prevE_idx (hL : LeadI own lead) (hn : next ≤ lead.length) : (prevE lead next).idx = (next : Int) := by
  by_cases h0 : 0 < next
  · obtain ⟨t, -, e⟩ := prevE_at hL hn h0; rw [e]
  · have : next = 0 := by omega
    subst this; rfl
theorem prevE_trm (hO : OwnI own T) (hL : LeadI own lead) (hn : next ≤ lead.length) : 0 ≤ (prevE lead next).trm ∧ (prevE lead next).trm ≤ 1000 := by
  have htop := hO.top
  by_cases h0 : 0 < next
  · obtain ⟨t, ht, e⟩ := prevE_at hL hn h0
    have := hO.rng _ t ht
    rw [e]; exact ⟨this.1, by show t ≤ 1000; omega⟩
  · have : next = 0 := by omega
    subst this; exact ⟨Int.le_refl _, by show (0 : Int) ≤ 1000; omega⟩
theorem send_fol (hO : OwnI own T) (hL : LeadI own lead) (hn : next ≤ lead.length) : folE (prevE lead next) (sendE lead next) = 0 := by
  have htop := hO.top
  refine fol_of _ _ (fun i x hx => ?_) (fun i j x y hij hx hy => ?_)
  · obtain ⟨hc, hx'⟩ := sendE_some hn hx
    obtain ⟨h1, h2, h3, h4⟩ := hL.at_ _ x hx'
    have hr := hO.rng _ _ h2
    have hlen := hL.len
    have hol := hO.len
    refine ⟨?_, by rw [prevE_idx hL hn, h1]; push_cast; omega, ?_⟩
    · unfold goodE rangeE
      rw [if_neg (by omega), if_pos h3, Bool.and_true]
      simp only [Bool.and_eq_true, decide_eq_true_eq]
      push_cast at h1
      refine ⟨⟨⟨⟨⟨⟨?_, ?_⟩, ?_⟩, ?_⟩, ?_⟩, ?_⟩, ?_⟩ <;> omega
    · by_cases h0 : 0 < next
      · obtain ⟨t, ht, e⟩ := prevE_at hL hn h0
        rw [e]
        exact hO.mono (next - 1) (next + i) t x.trm (by omega) ht h2
      · have : next = 0 := by omega
        subst this; exact hr.1
  · exact hO.mono (next + i) (next + j) _ _ (by omega) (hL.at_ _ x (sendE_some hn hx).2).2.1 (hL.at_ _ y (sendE_some hn hy).2).2.1
/-- What does not fit: the next one is asked from further ahead. -/
theorem one_no (hO : OwnI own T) (hL : LeadI own lead) (hn : next ≤ lead.length) (h : OneI own T l a) {sh : Int} (hk : fitK zI l sh (prevE lead next).idx (prevE lead next).trm ≠ 0) :
    0 ≤ fitH zI l (prevE lead next).idx ∧ fitH zI l (prevE lead next).idx < (next : Int) := by
  have h1 := (fitH_sure (h.right hO) hk)
  rw [prevE_idx hL hn] at h1 ⊢
  refine ⟨?_, h1.2⟩
  obtain ⟨z, hz⟩ := Option.isSome_iff_exists.1 h1.1
  have := (atV_range hz).1
  exact this
/-- What fits. -/
theorem one_yes (hO : OwnI own T) (hL : LeadI own lead) (hn : next ≤ lead.length) (h : OneI own T l a) {sh : Int} (hk : fitK zI l sh (prevE lead next).idx (prevE lead next).trm = 0) {q : Pln} {m : Nat} (hs : Stops zI l sh (prevE lead next) (sendE lead next) q m) :
    q.idx = ((min (next + 3) lead.length : Nat) : Int) ∧ (0 < q.cut → (a : Int) < q.cut) ∧ OneI own T (behV zI l q) (max a (min (next + 3) lead.length)) := by
  have hf := send_fol hO hL hn
  have hb : (0 : Int) ≤ zI.idx := Int.le_refl _
  have hz0 : zI.idx = 0 := rfl
  have hpi := prevE_idx hL hn
  have hsl := sendE_length hn
  have hll := hL.len
  have hol := hO.len
  obtain ⟨ha1, ha2⟩ := h.ha
  have hlast : lastI zI l = (l.length : Int) := by unfold lastI; rw [hz0]; omega
  -- what is sent goes on where both are one
  have hna : next ≤ a := by
    by_cases h0 : 0 < next
    · obtain ⟨t, ht, e⟩ := prevE_at hL hn h0
      have htT := (hO.rng _ t ht).2
      have hle : ¬ lastI zI l < (next : Int) := fun hlt => by
        rw [hpi, fitK_far (by rw [hz0]; omega) hlt] at hk; omega
      obtain ⟨p, hp⟩ : ∃ p, l[next - 1]? = some p := ⟨_, List.getElem?_eq_getElem (by omega)⟩
      have hat := h.at hp
      rw [show ((next - 1 : Nat) : Int) + 1 = (next : Int) by omega] at hat
      have htr := fitK_zero hk (by rw [hpi, hz0]; omega) (by rw [hpi]; exact hat)
      rw [e] at htr
      have htr' : p.trm = t := htr
      by_cases hc : next ≤ a
      · exact hc
      · have := h.far (next - 1) p (by omega) hp; omega
    · omega
  -- where it stops
  have hidx : q.idx = ((min (next + 3) lead.length : Nat) : Int) ∧ (0 < q.cut → (a : Int) < q.cut ∧ q.cut ≤ q.idx) := by
    rcases hs.stop with ⟨h1, h2, -, h4⟩ | ⟨x, hx, hbx, ⟨-, h2, -, h4⟩ | ⟨h1, h2, -, h4⟩ | ⟨h1, h2, -, h4⟩⟩
    · rw [hpi, hz0] at h4; exact ⟨by omega, by omega⟩
    · rw [hpi] at h4; exact ⟨by omega, by omega⟩
    · rw [hpi] at h4
      have hxi := fol_idx hf hx
      rw [hpi] at hxi
      have hml := (List.getElem?_eq_some_iff.1 hx).1
      refine ⟨by omega, fun _ => ⟨?_, by omega⟩⟩
      obtain ⟨z, hz, hzt⟩ := fitK_two h1
      obtain ⟨hr1, hr2⟩ := atV_range hz
      rw [hz0] at hr2
      by_cases hc : (a : Int) < q.cut
      · exact hc
      · exfalso
        obtain ⟨-, hxl⟩ := sendE_some hn hx
        obtain ⟨p, hp⟩ : ∃ p, l[next + m]? = some p := ⟨_, List.getElem?_eq_getElem (by omega)⟩
        have hat := h.at hp
        rw [show ((next + m : Nat) : Int) + 1 = x.idx by push_cast; omega, hz] at hat
        injection hat with hat
        subst hat
        have e1 := h.near (next + m) _ (by omega) hp
        have e2 := (hL.at_ _ x hxl).2.1
        rw [e1] at e2; injection e2 with e2
        exact hzt e2
    · exfalso
      by_cases hc0 : x.idx ≤ zI.idx
      · omega
      by_cases hc1 : lastI zI l < x.idx
      · rw [fitK_far hc0 hc1] at h1; omega
      · rw [hz0] at hc0
        obtain ⟨p, hp⟩ : ∃ p, l[(x.idx - 1).toNat]? = some p := ⟨_, List.getElem?_eq_getElem (by omega)⟩
        have hat := h.at hp
        rw [show (((x.idx - 1).toNat : Nat) : Int) + 1 = x.idx by omega] at hat
        rw [fitK_some (by rw [hz0]; omega) hc1 hat] at h1
        split at h1 <;> omega
  obtain ⟨hq, hcut⟩ := hidx
  have hbl := beh_last hb hf hk hs
  have hlb : lastI zI (behV zI l q) = ((behV zI l q).length : Int) := by unfold lastI; rw [hz0]; omega
  rw [hlb, hlast] at hbl
  have hc0 := (stops_cut hb hf hk hs).1
  obtain ⟨Q, hQ⟩ : ∃ Q, min (next + 3) lead.length = Q := ⟨_, rfl⟩
  rw [hQ] at hq hsl ⊢
  have hnQ : next ≤ Q := by omega
  have hQl : Q ≤ lead.length := by omega
  -- what stands behind the plan
  have hcase : ∀ (i : Nat) (p : Idt), (behV zI l q)[i]? = some p → (i < next ∧ l[i]? = some p) ∨ (next ≤ i ∧ i < Q ∧ p.idx = (i : Int) + 1 ∧ p.knd = 2 ∧ own[i]? = some p.trm) ∨ (Q ≤ i ∧ q.cut = 0 ∧ l[i]? = some p) := by
    intro i p hp
    have hil := (List.getElem?_eq_some_iff.1 hp).1
    have hto : ((i : Int) + 1 - zI.idx - 1).toNat = i := by rw [hz0]; omega
    by_cases hi1 : i < next
    · left
      refine ⟨hi1, ?_⟩
      have := beh_old hb hf hk hs (i := (i : Int) + 1) (by rw [hz0]; omega) (.inl (by rw [hpi]; omega)) (by
        by_cases hc : 0 < q.cut
        · have := (hcut hc).1; exact .inr (by omega)
        · exact .inl (by omega)) (by rw [hlast]; omega)
      rw [hto] at this
      rw [← this]; exact hp
    · by_cases hi2 : i < Q
      · right; left
        obtain ⟨x, hx⟩ : ∃ x, (sendE lead next)[i - next]? = some x := ⟨_, List.getElem?_eq_getElem (by omega)⟩
        obtain ⟨-, hxl⟩ := sendE_some hn hx
        rw [show next + (i - next) = i by omega] at hxl
        obtain ⟨g1, g2, g3, -⟩ := hL.at_ i x hxl
        have := beh_in hb hf hk hs hx (by rw [hz0]; omega) (by omega)
        rw [g1, hto, hp] at this
        injection this with this
        subst this
        exact ⟨by omega, hi2, g1, g3, g2⟩
      · right; right
        have hc : q.cut = 0 := by
          by_cases hc : 0 < q.cut
          · rw [if_pos hc] at hbl; omega
          · omega
        rw [if_neg (by omega)] at hbl
        refine ⟨by omega, hc, ?_⟩
        have := beh_old hb hf hk hs (i := (i : Int) + 1) (by rw [hz0]; omega) (.inr (by omega)) (.inl (by omega)) (by rw [hlast]; omega)
        rw [hto] at this
        rw [← this]; exact hp
  refine ⟨hq, fun hc => (hcut hc).1, ⟨?_, ⟨?_, ?_⟩, ?_, ?_, ?_, ?_⟩⟩
  · have := h.len
    by_cases hc : 0 < q.cut
    · rw [if_pos hc] at hbl; omega
    · rw [if_neg hc] at hbl; omega
  · omega
  · by_cases hc : 0 < q.cut
    · rw [if_pos hc] at hbl; have := hcut hc; omega
    · rw [if_neg hc] at hbl; omega
  · intro i p hp
    rcases hcase i p hp with ⟨-, h2⟩ | ⟨-, -, h3, h4, h5⟩ | ⟨-, -, h2⟩
    · exact h.idx i p h2
    · exact ⟨h3, h4, (hO.rng i _ h5).1⟩
    · exact h.idx i p h2
  · intro i p hi hp
    rcases hcase i p hp with ⟨h1, h2⟩ | ⟨-, -, -, -, h5⟩ | ⟨h1, -, h2⟩
    · exact h.near i p (by omega) h2
    · exact h5
    · exact h.near i p (by omega) h2
  · intro i p hi hp
    rcases hcase i p hp with ⟨h1, h2⟩ | ⟨-, h1, -, -, h5⟩ | ⟨h1, -, h2⟩
    · omega
    · omega
    · exact h.far i p (by omega) h2
  · intro i j p r hi hij hp hr
    rcases hcase i p hp with ⟨h1, h2⟩ | ⟨-, h1, -, -, h5⟩ | ⟨h1, -, h2⟩
    · omega
    · omega
    · rcases hcase j r hr with ⟨k1, k2⟩ | ⟨-, k1, -, -, k5⟩ | ⟨k1, -, k2⟩
      · omega
      · omega
      · exact h.mono i j p r (by omega) hij h2 k2
/-- All of the one is in the other. -/
theorem one_done (h : OneI own T l a) (hL : LeadI own lead) (ha : own.length ≤ a) {i : Nat} {x : Ent} (hx : lead[i]? = some x) : ∃ p, atV zI l ((i : Int) + 1) = some p ∧ p.trm = x.trm := by
  have hi := (List.getElem?_eq_some_iff.1 hx).1
  have hll := hL.len
  obtain ⟨ha1, ha2⟩ := h.ha
  obtain ⟨p, hp⟩ : ∃ p, l[i]? = some p := ⟨_, List.getElem?_eq_getElem (by omega)⟩
  refine ⟨p, h.at hp, ?_⟩
  have e1 := h.near i p (by omega) hp
  have e2 := (hL.at_ i x hx).2.1
  rw [e1] at e2; injection e2
end

/-- The terms of the one. -/
def stepT (t x : Int) : Int := t + min (max x 0) 2
def ownT : Int → List Int → List Int
  | _, [] => []
  | t, x :: r => stepT t x :: ownT (stepT t x) r
def lastT : Int → List Int → Int
  | t, [] => t
  | t, x :: r => lastT (stepT t x) r
def moreT (t : Int) (r : Nat) : List Int := (List.range r).map fun i => t + 1 + ((i / 3 : Nat) : Int)
theorem stepT_le (t x : Int) : t ≤ stepT t x ∧ stepT t x ≤ t + 2 := by unfold stepT; omega
theorem ownT_length (ts : List Int) : ∀ t, (ownT t ts).length = ts.length := by
  induction ts with
  | nil => intro t; rfl
  | cons x r ih => intro t; show (ownT (stepT t x) r).length + 1 = r.length + 1; rw [ih]
theorem ownT_snoc (ts : List Int) (x : Int) : ∀ t, ownT t (ts ++ [x]) = ownT t ts ++ [stepT (lastT t ts) x] := by
  induction ts with
  | nil => intro t; rfl
  | cons y r ih => intro t; show stepT t y :: ownT (stepT t y) (r ++ [x]) = _; rw [ih]; rfl
theorem lastT_snoc (ts : List Int) (x : Int) : ∀ t, lastT t (ts ++ [x]) = stepT (lastT t ts) x := by
  induction ts with
  | nil => intro t; rfl
  | cons y r ih => intro t; exact ih _
theorem lastT_le (ts : List Int) : ∀ t, t ≤ lastT t ts ∧ lastT t ts ≤ t + 2 * (ts.length : Int) := by
  induction ts with
  | nil => intro t; exact ⟨Int.le_refl _, by show t ≤ _; simp⟩
  | cons x r ih =>
    intro t
    have h1 := stepT_le t x
    have h2 := ih (stepT t x)
    show t ≤ lastT (stepT t x) r ∧ lastT (stepT t x) r ≤ t + 2 * ((r.length + 1 : Nat) : Int)
    push_cast; omega
theorem ownT_rng (ts : List Int) : ∀ t (i : Nat) y, (ownT t ts)[i]? = some y → t ≤ y ∧ y ≤ lastT t ts := by
  induction ts with
  | nil => intro t i y h; simp [ownT] at h
  | cons x r ih =>
    intro t i y h
    have h1 := stepT_le t x
    have h2 := lastT_le r (stepT t x)
    show t ≤ y ∧ y ≤ lastT (stepT t x) r
    cases i with
    | zero =>
      have : stepT t x = y := by simpa [ownT] using h
      omega
    | succ i =>
      have := ih (stepT t x) i y (by simpa [ownT] using h)
      omega
theorem ownT_mono (ts : List Int) : ∀ t (i j : Nat) x y, i ≤ j → (ownT t ts)[i]? = some x → (ownT t ts)[j]? = some y → x ≤ y := by
  induction ts with
  | nil => intro t i j x y _ h; simp [ownT] at h
  | cons z r ih =>
    intro t i j x y hij hx hy
    cases i with
    | zero =>
      have e : stepT t z = x := by simpa [ownT] using hx
      cases j with
      | zero => rw [hx] at hy; injection hy with hy; omega
      | succ j =>
        have := ownT_rng r (stepT t z) j y (by simpa [ownT] using hy)
        omega
    | succ i =>
      cases j with
      | zero => omega
      | succ j => exact ih (stepT t z) i j x y (by omega) (by simpa [ownT] using hx) (by simpa [ownT] using hy)
theorem ownI_of {ts : List Int} (h : ts.length ≤ 40) : OwnI (ownT 0 ts) (lastT 0 ts) :=
  ⟨ownT_mono ts 0, fun i x hx => ownT_rng ts 0 i x hx, by have := lastT_le ts 0; omega, by rw [ownT_length]; exact h⟩
theorem moreT_length (t : Int) (r : Nat) : (moreT t r).length = r := by simp [moreT]
theorem moreT_at {t : Int} {r i : Nat} {x : Int} (h : (moreT t r)[i]? = some x) : x = t + 1 + ((i / 3 : Nat) : Int) := by
  unfold moreT at h
  rw [List.getElem?_map] at h
  by_cases hi : i < r
  · rw [List.getElem?_range hi] at h; simpa using h.symm
  · rw [List.getElem?_eq_none (by simp; omega)] at h; simp at h
theorem moreT_snoc (t : Int) (r : Nat) : moreT t (r + 1) = moreT t r ++ [t + 1 + ((r / 3 : Nat) : Int)] := by
  unfold moreT; rw [List.range_succ, List.map_append]; rfl
theorem one_start {own : List Int} {T : Int} {k r : Nat} (hO : OwnI own T) (hk : k ≤ own.length) (hr : r ≤ 20) : OneI own T (viewL 0 (own.take k ++ moreT T r)) k := by
  have hol := hO.len
  have htop := hO.top
  have hlen : (own.take k ++ moreT T r).length = k + r := by rw [List.length_append, List.length_take, moreT_length, Nat.min_eq_left hk]
  have hat : ∀ (i : Nat) (p : Idt), (viewL 0 (own.take k ++ moreT T r))[i]? = some p → ∃ t, (own.take k ++ moreT T r)[i]? = some t ∧ p = ⟨(i : Int) + 1, t, 2⟩ := by
    intro i p hp
    rw [viewL_at] at hp
    cases ht : (own.take k ++ moreT T r)[i]? with
    | none => rw [ht] at hp; simp at hp
    | some t =>
      rw [ht] at hp
      simp only [Option.map_some, Option.some.injEq] at hp
      exact ⟨t, rfl, by rw [← hp]; congr 1; omega⟩
  have hlo : ∀ (i : Nat) t, i < k → (own.take k ++ moreT T r)[i]? = some t → own[i]? = some t := by
    intro i t hi ht
    rw [List.getElem?_append_left (by rw [List.length_take]; omega), List.getElem?_take, if_pos hi] at ht
    exact ht
  have hhi : ∀ (i : Nat) t, k ≤ i → (own.take k ++ moreT T r)[i]? = some t → t = T + 1 + (((i - k) / 3 : Nat) : Int) := by
    intro i t hi ht
    rw [List.getElem?_append_right (by rw [List.length_take]; omega), List.length_take, Nat.min_eq_left hk] at ht
    exact moreT_at ht
  refine ⟨by rw [viewL_length, hlen]; omega, ⟨hk, by rw [viewL_length, hlen]; omega⟩, ?_, ?_, ?_, ?_⟩
  · intro i p hp
    obtain ⟨t, ht, rfl⟩ := hat i p hp
    refine ⟨rfl, rfl, ?_⟩
    show 0 ≤ t
    by_cases hi : i < k
    · exact (hO.rng i t (hlo i t hi ht)).1
    · have := hhi i t (by omega) ht; omega
  · intro i p hi hp
    obtain ⟨t, ht, rfl⟩ := hat i p hp
    exact hlo i t hi ht
  · intro i p hi hp
    obtain ⟨t, ht, rfl⟩ := hat i p hp
    have := hhi i t hi ht
    show T < t; omega
  · intro i j p q hi hij hp hq
    obtain ⟨t, ht, rfl⟩ := hat i p hp
    obtain ⟨u, hu, rfl⟩ := hat j q hq
    have h1 := hhi i t hi ht
    have h2 := hhi j u (by omega) hu
    show t ≤ u
    have : (i - k) / 3 ≤ (j - k) / 3 := Nat.div_le_div_right (by omega)
    omega
end Go.Proofs.YtfglkpcboodllaaGreatDoor
