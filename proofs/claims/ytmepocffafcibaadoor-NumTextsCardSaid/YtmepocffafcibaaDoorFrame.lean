/-
  WHAT EACH ROW OF THIS SEAT WANTS BESIDE ITS WALK: from what the row lists, and from the world's shape, to the one word that the walks ask ('LaidW'); the witness's world.
-/
import Derived.Test.YtmepocffafcibaaDoorRows
import Derived.Test.YtmepocffafcibaaDoorText
import Derived.WalkKit
import Derived.ProofKit
import Derived.OpenShut
import Derived.Lay
import Derived.Deep.DeepHandedRow
import Derived.Stop.LaidErr
import Derived.Shelf.LaysM
namespace Go.Proofs.YtmepocffafcibaaDoor
open Go.ChangeShapes Go.WideShapes Go.ChangeAt Go.RowKit

theorem own : ownKnob Tryd.prog.godebug = none := by kernel_rfl
theorem laidOut : laidOutB Tryd.prog = true := by kernel_rfl
theorem cells41 : Tryd.prog.cellsOf 41 = 1 := by kernel_rfl
theorem gTabType : (Tryd.prog.globals[7]?).map (·.type) = some 125 := by kernel_rfl
theorem cellsTab : Tryd.prog.cellsOf 125 = 20 := by kernel_rfl
theorem tabLit {H : Type} : (Rows.laid_internal_strconv_uint64pow10 : DataW H) = Lib.tabData .u64 Lib.pow10Tab := rfl

theorem laidW_of {W : World} {a b : String × DataW Unit} {rest : List (String × DataW Unit)} (h : laidMet Tryd.prog (a :: b :: ("internal/strconv.uint64pow10", Rows.laid_internal_strconv_uint64pow10) :: rest) W) (hsh : W.ShapedOpen Tryd.prog) : LaidW W := by
  have h2 := h.tail.tail
  rw [tabLit] at h2
  have ht : Lib.TabIs Tryd.prog W "internal/strconv.uint64pow10" .u64 Lib.pow10Tab := Lib.tabIs_of_head gTab gTabType Tryd.underlying125 Tryd.underlying41 cells41 cellsTab h2
  refine ⟨ht, Tryd.laysM145.s1_3 W hsh, ?_⟩
  have hc := ht.cell gTab 0 (by rw [Lib.pow10Tab_length]; omega)
  have hl : 7 < W.heap.size := block_lt_of_cell hc
  omega
end Go.Proofs.YtmepocffafcibaaDoor
