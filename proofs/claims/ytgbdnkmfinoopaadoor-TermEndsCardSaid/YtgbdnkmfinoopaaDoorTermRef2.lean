/-
  limpetref19.Grant answers as term.Grant does: its contract.
-/
import Derived.Test.YtgbdnkmfinoopaaDoorTermRef
import Derived.Test.YtgbdnkmfinoopaaDoorTermRefMath
set_option linter.unusedVariables false
namespace Go.Proofs.YtgbdnkmfinoopaaDoor
open Go.RowKit

theorem rGrant (m : Met) (own last : Idt) (frm term : Int) (w : World) :
    Calls Tryd.prog 10 #[.agg #[.int .i64 m.ver, .int .i64 m.trm, .int .i64 m.vot], .agg #[.int .i64 own.idx, .int .i64 own.trm, .int .i64 own.knd], .int .i64 frm, .int .i64 term, .agg #[.int .i64 last.idx, .int .i64 last.trm, .int .i64 last.knd]] w fun e w' =>
      e = .returned (.tuple #[.agg #[.int .i64 (grantM m own frm term last).1.ver, .int .i64 (grantM m own frm term last).1.trm, .int .i64 (grantM m own frm term last).1.vot], .bool (grantM m own frm term last).2]) ∧ Below w.heap.size w w' := by
  cases hr : metRight m with
  | false =>
    have e : grantM m own frm term last = (seeM m term, false) := by simp [grantM, askedR, hr]
    rw [e]; exact rGrant_a m _ own last frm term w rfl hr
  | true =>
    have hb := metRight_iff.1 hr
    by_cases h1 : (seeM m term).trm = term
    case neg => rw [grant_no hr (Or.inl h1)]; exact rGrant_b m _ own last frm term w rfl hr (by simpa using h1)
    have q1 : ((seeM m term).trm != term) = false := by simpa using h1
    by_cases h2 : term < 1
    · rw [grant_no hr (Or.inr (Or.inl h2))]; exact rGrant_c m _ own last frm term w rfl hr q1 h2
    by_cases h3 : frm < 1
    · rw [grant_no hr (Or.inr (Or.inr (Or.inl h3)))]; exact rGrant_d m _ own last frm term w rfl hr q1 h2 h3
    by_cases h4 : 7 < frm
    · rw [grant_no hr (Or.inr (Or.inr (Or.inr h4)))]; exact rGrant_e m _ own last frm term w rfl hr q1 h2 h3 h4
    have e := grant_yes (own := own) (last := last) (frm := frm) hr h1 (by omega) (by omega) (by omega)
    rw [e]; clear e
    by_cases v0 : (seeM m term).vot = 0
    · have q5 : ((seeM m term).vot != 0) = false := by simpa using v0
      have q7 : ((seeM m term).vot == frm) = false := by rw [v0]; simp; omega
      rw [if_neg (by omega)]
      by_cases v1 : m.ver = 1099511627776
      · rw [if_pos ⟨v0, v1⟩]
        have es : seeM m term = m := see_stay hr (Or.inl v1)
        rcases older_cases last own with q | q
        · have := rGrant_g m _ own last frm term w rfl hr q1 h2 h3 h4 q5 q
          rw [es] at this
          exact this
        · exact rGrant_i m _ own last frm term w rfl hr q1 h2 h3 h4 q5 q7 (by simpa using v1) q
      · rw [if_neg (by omega)]
        rcases older_cases last own with q | q
        · rw [if_pos q]; exact rGrant_g m _ own last frm term w rfl hr q1 h2 h3 h4 q5 q
        · rw [if_neg (by rw [q]; simp), if_neg (by omega)]
          exact rGrant_j m _ own last frm term w rfl hr q1 h2 h3 h4 q5 q7 (by simpa using v1) q (by omega) (by omega)
    · have q5 : ((seeM m term).vot != 0) = true := by simpa using v0
      by_cases v2 : (seeM m term).vot = frm
      · have q6 : ((seeM m term).vot != frm) = false := by simpa using v2
        rw [if_neg (by omega), if_neg (by omega)]
        rcases older_cases last own with q | q
        · rw [if_pos q]; exact rGrant_h m _ own last frm term w rfl hr q1 h2 h3 h4 q5 q6 q
        · rw [if_neg (by rw [q]; simp), if_pos v2]
          exact rGrant_k m _ own last frm term w rfl hr q1 h2 h3 h4 q5 q6 (by simpa using v2) q
      · rw [if_pos ⟨v0, v2⟩]
        exact rGrant_f m _ own last frm term w rfl hr q1 h2 h3 h4 q5 (by simpa using v2)
end Go.Proofs.YtgbdnkmfinoopaaDoor
