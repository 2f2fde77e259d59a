/-
  WHAT errors.errorType HOLDS, and the model's words on two interface values of one integer type.
-/
import Derived.Test.YtglkgmijhdkhpaaDoorProg
import Derived.Test.YtglkgmijhdkhpaaDoorBase
import Derived.WalkLawsBesides
import Derived.LaidEql
import Derived.Stop.Asserts
import Derived.RowKitTokens
set_option linter.unusedVariables false
namespace Go.Proofs.YtglkgmijhdkhpaaDoor
open Go.RowKit Go.Extern.Stop Go.Stop Go.Extern

theorem run_equalIn_iface_int {P : Program} (w : World) (d : Nat) {ti tn : TypeId} {ms : Array (String × TypeId)} {i : TypeInfo} {k : IntKind} (a b : Int)
    (hi : P.underlying ti = some (.interface ms)) (hn : P.underlying tn = some (.int k)) (hinfo : P.info? tn = some i) (hcomp : i.comparable = true) :
    (Op.equalIn (d + 2) ti (.iface tn (.int k a)) (.iface tn (.int k b))).run P w = .ok (a == b) w := by
  simp [Op.equalIn, run_underlying hi, run_underlying hn, typeInfo, hinfo, hcomp]
/-- 'x == y', both interface values of ONE integer type: as the numbers are. -/
theorem run_eql_iface_int {P : Program} (w : World) {ti tn : TypeId} {ms : Array (String × TypeId)} {i : TypeInfo} {k : IntKind} (a b : Int)
    (hi : P.underlying ti = some (.interface ms)) (hn : P.underlying tn = some (.int k)) (hinfo : P.info? tn = some i) (hcomp : i.comparable = true) :
    (binOp .eql ti (.iface tn (.int k a)) (.iface tn (.int k b))).run P w = .ok (.bool (a == b)) w := by
  simp only [binOp]
  simp [Op.equal, Op.maxDepth, run_equalIn_iface_int w 9998 a b hi hn hinfo hcomp]

/-- What errors.errorType holds (laid by the row). -/
def errTypeIs (w : World) : Prop := w.cell? ⟨0, 0, none⟩ = some (.iface 112 (.agg #[.pointer (some ⟨1, 55, none⟩)]))
theorem errType_later {w w' : World} (h : errTypeIs w) (hb : Below w.heap.size w w') : errTypeIs w' := (hb.cell (p := ⟨0, 0, none⟩) (World.block_lt_of_cell? _ _ h)).trans h
theorem errType_but {w w' : World} {g : Nat} (h : errTypeIs w) (hb : But g w w') (hg : 0 < g) : errTypeIs w' := by
  have hz := World.block_lt_of_cell? _ _ h
  unfold errTypeIs at h ⊢
  rw [World.cell?_of_block (a := ⟨0, 0, none⟩) (w := w) (hb.2.2.2.2 0 hz (by omega))]; exact h
end Go.Proofs.YtglkgmijhdkhpaaDoor
