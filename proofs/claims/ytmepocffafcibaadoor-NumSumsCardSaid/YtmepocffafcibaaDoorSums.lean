/-
  NumSums: THE WALK OF THE LAW: it returns true at every two ints, in every world in which the tables lie; of what was there nothing is turned.
-/
import Derived.Test.YtmepocffafcibaaDoorLives
namespace Go.Proofs.YtmepocffafcibaaDoor
open Go.RowKit

set_option maxHeartbeats 400000 in
theorem sums_any (a b : Int) (w : World) (L : LaidW w) :
    Calls Tryd.prog 6 #[.int .i64 a, .int .i64 b] w fun e w' => e = .returned (.bool true) ∧ Below w.heap.size w w' := by
  have HL := Lib.hid L
  clear L
  go_enter Tryd.func6, Tryd.ntmps6
  go_wp2_with fail
  refine (add_any a b _).mono ?_
  rintro e w1 ⟨rfl, rfl⟩
  go_wp2_with fail
  refine (radd_any a b _).mono ?_
  rintro e w1 ⟨rfl, rfl⟩
  go_wp2_with fail
  refine (sub_any a b _).mono ?_
  rintro e w1 ⟨rfl, rfl⟩
  go_wp2_with fail
  refine (rsub_any a b _).mono ?_
  rintro e w1 ⟨rfl, rfl⟩
  go_wp2_with fail
  refine (fits_any a _).mono ?_
  rintro e w1 ⟨rfl, rfl⟩
  go_wp2_with fail
  refine (rfits_any a _).mono ?_
  rintro e w1 ⟨rfl, rfl⟩
  go_wp2_with fail
  refine (lives_any _ HL.out).mono ?_
  rintro e w2 ⟨rfl, h2⟩
  have B2 := Lib.hid h2
  clear h2
  go_wp2_with fail
  go_ret
  exact ⟨rfl, B2.out⟩
end Go.Proofs.YtmepocffafcibaaDoor
