/-
  LeadKeeps, the plain law: what an event makes of right books.
-/
import Derived.Test.YthadfdpdillemaaGreatDoorLeadMath
set_option linter.unusedVariables false
namespace Go.Proofs.YthadfdpdillemaaGreatDoor

theorem memFrom_len : ∀ (l : List Int) (p : Int), 0 ≤ p → memFrom p l = true → (l.length : Int) ≤ 7 - p ∨ l = [] := by
  intro l
  induction l with
  | nil => intro p _ _; exact .inr rfl
  | cons m l ih =>
    intro p hp h
    simp only [memFrom, Bool.and_eq_true, decide_eq_true_eq] at h
    left
    rcases ih m (by omega) h.2 with h' | h'
    · simp only [List.length_cons]; omega
    · subst h'; simp; omega
theorem memRight_len {l : List Int} (h : memRight l = true) : l.length ≤ 7 := by
  simp only [memRight, Bool.and_eq_true] at h
  rcases memFrom_len l 0 (by omega) h.1 with h' | h'
  · omega
  · subst h'; simp
theorem bksFrom_len : ∀ (l : List Bk) (p : Int), 0 ≤ p → bksFrom p l = true → (l.length : Int) ≤ 7 - p ∨ l = [] := by
  intro l
  induction l with
  | nil => intro p _ _; exact .inr rfl
  | cons m l ih =>
    intro p hp h
    simp only [bksFrom, okBk, Bool.and_eq_true, decide_eq_true_eq] at h
    left
    rcases ih m.who (by omega) h.2 with h' | h'
    · simp only [List.length_cons]; omega
    · subst h'; simp; omega
theorem bksRight_len {l : List Bk} (h : bksRight l = true) : l.length ≤ 7 := by
  rcases bksFrom_len l 0 (by omega) h with h' | h'
  · omega
  · subst h'; simp

theorem bksFrom_mem : ∀ (l : List Bk) (p : Int), bksFrom p l = true → ∀ x ∈ l, p < x.who ∧ 1 ≤ x.who ∧ x.who ≤ 7 ∧ 0 ≤ x.mat ∧ x.mat ≤ 1099511627776 ∧ x.mat + 1 ≤ x.next ∧ x.next ≤ 1099511627777 ∧ 0 ≤ x.piece ∧ x.piece ≤ 48 := by
  intro l
  induction l with
  | nil => intro p _ x hx; cases hx
  | cons b l ih =>
    intro p h x hx
    simp only [bksFrom, okBk, Bool.and_eq_true, decide_eq_true_eq] at h
    rcases List.mem_cons.1 hx with rfl | hx
    · exact h.1
    · have := ih b.who h.2 x hx
      omega
theorem bksFrom_find : ∀ (l : List Bk) (p : Int), bksFrom p l = true → ∀ x ∈ l, findBk l x.who = some x := by
  intro l
  induction l with
  | nil => intro p _ x hx; cases hx
  | cons b l ih =>
    intro p h x hx
    have h' := h
    simp only [bksFrom, Bool.and_eq_true] at h'
    rcases List.mem_cons.1 hx with rfl | hx
    · simp [findBk]
    · have hne : b.who ≠ x.who := by have := (bksFrom_mem l b.who h'.2 x hx).1; omega
      have := ih b.who h'.2 x hx
      simp only [findBk] at this ⊢
      simp [hne, this]
theorem findBk_who {l : List Bk} {who : Int} {x : Bk} (h : findBk l who = some x) : x.who = who ∧ x ∈ l := by
  unfold findBk at h
  exact ⟨by simpa using List.find?_some h, List.mem_of_find?_eq_some h⟩

/-- What LeadKeeps asks of the books behind an event. -/
def StepOk (bs : List Bk) (what frm index : Int) (yes : Bool) (nb : List Bk) : Prop :=
  bksRight nb = true ∧ ∀ b ∈ nb, ∀ was, findBk bs b.who = some was → was.mat ≤ b.mat ∧ (b.who = frm ∨ b = was) ∧ (b.next < was.next → yes = false ∧ b.next = max index was.mat + 1) ∧
    (yes = true → what.tmod 4 = 0 → b.who = frm → index ≤ 1099511627776 → index < b.next)

theorem turn_mem {who : Int} {f : Bk → Bk} : ∀ {l : List Bk} {p : Int} {b : Bk}, bksFrom p l = true → b ∈ turnBks who f l → (b ∈ l ∧ b.who ≠ who) ∨ ∃ y ∈ l, y.who = who ∧ b = f y := by
  intro l
  induction l with
  | nil => intro p b _ h; cases h
  | cons x l ih =>
    intro p b hr h
    simp only [bksFrom, Bool.and_eq_true] at hr
    unfold turnBks at h
    split at h
    · rename_i hx
      rcases List.mem_cons.1 h with rfl | h
      · exact .inr ⟨x, List.mem_cons_self, hx, rfl⟩
      · exact .inl ⟨List.mem_cons_of_mem _ h, by have := (bksFrom_mem l _ hr.2 b h).1; omega⟩
    · rename_i hx
      rcases List.mem_cons.1 h with rfl | h
      · exact .inl ⟨List.mem_cons_self, hx⟩
      · rcases ih hr.2 h with ⟨h, hn⟩ | ⟨y, hy, hyw, hb⟩
        · exact .inl ⟨List.mem_cons_of_mem _ h, hn⟩
        · exact .inr ⟨y, List.mem_cons_of_mem _ hy, hyw, hb⟩
theorem turn_right {who : Int} {f : Bk → Bk} (hw : ∀ x, (f x).who = x.who) (hok : ∀ p x, okBk p x = true → okBk p (f x) = true) : ∀ {l : List Bk} {p : Int}, bksFrom p l = true → bksFrom p (turnBks who f l) = true := by
  intro l
  induction l with
  | nil => intro p h; rfl
  | cons x l ih =>
    intro p h
    simp only [bksFrom, Bool.and_eq_true] at h
    unfold turnBks
    split
    · simp only [bksFrom, Bool.and_eq_true, hw]; exact ⟨hok p x h.1, h.2⟩
    · simp only [bksFrom, Bool.and_eq_true]; exact ⟨h.1, ih h.2⟩

theorem ack_ok {bs : List Bk} {what frm index : Int} {yes : Bool} (h : bksRight bs = true) (hi : 0 ≤ index) : StepOk bs what frm index yes (ackBks bs frm index yes) := by
  have hw : ∀ x, (ackBk x index yes).who = x.who := by intro x; unfold ackBk yesBk noBk; split <;> rfl
  refine ⟨turn_right hw ?_ h, ?_⟩
  · intro p x hx
    simp only [okBk, decide_eq_true_eq] at hx ⊢
    rw [hw]
    unfold ackBk yesBk noBk hasMatch
    split <;> (simp only; split <;> omega)
  · intro b hb was hf
    rcases turn_mem h hb with ⟨hb, hbn⟩ | ⟨y, hy, hyw, rfl⟩
    · have := bksFrom_find bs 0 h b hb
      rw [hf] at this; cases this
      have hr := bksFrom_mem bs 0 h b hb
      refine ⟨by omega, .inr rfl, by omega, ?_⟩
      intro _ _ hwf hle
      exact absurd hwf hbn
    · rw [hw, bksFrom_find bs 0 h y hy] at hf
      have e : y = was := Option.some.inj hf
      subst e
      have hr := bksFrom_mem bs 0 h y hy
      refine ⟨?_, .inl (by rw [hw]; exact hyw), ?_, ?_⟩
      · unfold ackBk yesBk noBk hasMatch; split <;> (simp only; try split) <;> omega
      · intro hlt
        unfold ackBk yesBk noBk hasMatch at hlt ⊢
        cases yes
        · simp only [Bool.false_eq_true, if_false] at hlt ⊢; refine ⟨trivial, ?_⟩; split at hlt <;> (split; all_goals omega)
        · simp only [if_true] at hlt; split at hlt <;> omega
      · intro hy' _ _ hle
        subst hy'
        simp only [ackBk, yesBk, hasMatch, if_true, hle, if_true]; omega

theorem got_ok {bs : List Bk} {what frm index piece : Int} {yes : Bool} (h : bksRight bs = true) (hi : 0 ≤ index) (hwt : what.tmod 4 ≠ 0) : StepOk bs what frm index yes (gotBks bs frm index piece yes) := by
  have hw : ∀ x, (gotBk x index piece yes).who = x.who := by intro x; unfold gotBk yesBk; split <;> (try split) <;> rfl
  refine ⟨turn_right hw ?_ h, ?_⟩
  · intro p x hx
    simp only [okBk, decide_eq_true_eq] at hx ⊢
    rw [hw]
    unfold gotBk yesBk hasMatch
    split <;> split <;> (try simp only) <;> omega
  · intro b hb was hf
    rcases turn_mem h hb with ⟨hb, hbn⟩ | ⟨y, hy, hyw, rfl⟩
    · have := bksFrom_find bs 0 h b hb
      rw [hf] at this; cases this
      exact ⟨by omega, .inr rfl, by omega, fun _ h => absurd h hwt⟩
    · rw [hw, bksFrom_find bs 0 h y hy] at hf
      have e : y = was := Option.some.inj hf
      subst e
      have hr := bksFrom_mem bs 0 h y hy
      refine ⟨?_, .inl (by rw [hw]; exact hyw), ?_, fun _ h => absurd h hwt⟩
      · unfold gotBk yesBk hasMatch; split <;> split <;> (try simp only) <;> omega
      · intro hlt
        unfold gotBk yesBk hasMatch at hlt
        split at hlt
        · split at hlt <;> (try simp only at hlt) <;> omega
        · split at hlt <;> (try simp only at hlt) <;> omega

theorem kept_right {bs : List Bk} {self last : Int} (h : bksRight bs = true) (h1 : 0 ≤ last) (h2 : last ≤ 1099511627776) : ∀ (ms : List Int) (p : Int), memFrom p ms = true → bksFrom p (keepBks bs ms self last) = true := by
  intro ms
  induction ms with
  | nil => intro p _; rfl
  | cons m ms ih =>
    intro p hm
    simp only [memFrom, Bool.and_eq_true, decide_eq_true_eq] at hm
    have hw : (keptBk bs last m).who = m := by
      unfold keptBk
      cases hf : findBk bs m with
      | none => rfl
      | some x => exact (findBk_who hf).1
    have hok : okBk p (keptBk bs last m) = true := by
      simp only [okBk, decide_eq_true_eq]
      rw [hw]
      unfold keptBk
      cases hf : findBk bs m with
      | none => simp; omega
      | some x =>
        have := bksFrom_mem bs 0 h x (findBk_who hf).2
        simp; omega
    by_cases hs : m = self
    · have he : keepBks bs (m :: ms) self last = keepBks bs ms self last := by simp [keepBks, hs]
      rw [he]
      have := ih m hm.2
      revert this
      generalize keepBks bs ms self last = q
      cases q with
      | nil => intro _; rfl
      | cons y q =>
        simp only [bksFrom, okBk, Bool.and_eq_true, decide_eq_true_eq]
        rintro ⟨h3, h4⟩
        exact ⟨by omega, h4⟩
    · have he : keepBks bs (m :: ms) self last = keptBk bs last m :: keepBks bs ms self last := by simp [keepBks, hs]
      rw [he, bksFrom, hok, hw, ih m hm.2]; rfl
theorem keep_ok {bs : List Bk} {ms : List Int} {what frm index self last : Int} {yes : Bool} (h : bksRight bs = true) (h1 : 0 ≤ last) (h2 : last ≤ 1099511627776) (hm : memRight ms = true) (hwt : what.tmod 4 ≠ 0) : StepOk bs what frm index yes (keepBks bs ms self last) := by
  simp only [memRight, Bool.and_eq_true] at hm
  refine ⟨kept_right h h1 h2 ms 0 hm.1, ?_⟩
  intro b hb was hf
  obtain ⟨m, -, rfl⟩ := List.mem_map.1 hb
  have hbw : keptBk bs last m = was := by
    unfold keptBk at hf ⊢
    cases hx : findBk bs m with
    | none => rw [hx] at hf; simp only [Option.getD_none] at hf; rw [hx] at hf; cases hf
    | some x =>
      rw [hx] at hf; simp only [Option.getD_some] at hf ⊢
      rw [(findBk_who hx).1, hx] at hf; exact Option.some.inj hf
  rw [hbw]
  exact ⟨by omega, .inr rfl, by omega, fun _ h => absurd h hwt⟩
theorem same_ok {bs : List Bk} {what frm index : Int} {yes : Bool} (h : bksRight bs = true) (hwt : what.tmod 4 ≠ 0) : StepOk bs what frm index yes bs := by
  refine ⟨h, fun b hb was hf => ?_⟩
  rw [bksFrom_find bs 0 h b hb] at hf; cases hf
  exact ⟨by omega, .inr rfl, by omega, fun _ h => absurd h hwt⟩
theorem begin_right {ms : List Int} {self last : Int} (h1 : 0 ≤ last) (h2 : last ≤ 1099511627776) (hm : memRight ms = true) : bksRight (keepBks [] ms self last) = true := by
  simp only [memRight, Bool.and_eq_true] at hm
  exact kept_right rfl h1 h2 ms 0 hm.1
end Go.Proofs.YthadfdpdillemaaGreatDoor
